/-
  THE DOCUMENT'S DECODER: what gathered bytes are, and the counts.
-/
import Derived.Test.YtpfilomckijmkaaHdlcAwake
import Derived.Test.YtpfilomckijmkaaCrcMore
import Derived.Test.YtpfilomckijmkaaStuffRef
namespace Go.Proofs.Ytpfilomckijmkaa
open Go.RowKit

/-- a slice in memory that is new from block N on -/
def New (N : Nat) (A : Option Addr) : Prop := ∀ k, Value.ownBlock (.slice A 0 0) = some k → N ≤ k
theorem New.nil (N : Nat) : New N none := fun k e => by simp [Value.ownBlock] at e
theorem New.base {N M : Nat} {A : Option Addr} (h : New N A) (hM : M ≤ N) : New M A := fun k e => Nat.le_trans hM (h k e)
theorem New.of_row {w : World} {B : Nat} {e : TypeId} {size : Nat} {A : Option Addr} {n n1 c : Nat} {xs : List Value} (h : w.ownsRow B e size (.slice A n c) n1 xs) : New B A := fun k hk => by
  refine (World.ownsRow.lt h k ?_).1
  cases A with
  | none => simp [Value.ownBlock] at hk
  | some a => simpa [Value.ownBlock] using hk
/-- what Kind gives -/
def KindP (w : World) (k : Nat) (l : List UInt8) (e : Ending) (w' : World) : Prop :=
  ∃ A c, e = .returned (.tuple #[.int .i64 k, .slice A l.length c]) ∧ Rd w' A l.length c l ∧ New w.heap.size A ∧ Below w.heap.size w w'

set_option maxHeartbeats 1000000 in
theorem kind_broken (A : Option Addr) (n c : Nat) (l : List UInt8) (w : World) (hR : Rd w A n c l) (hn : n ≤ 260) (hu : Stf.unstuff false l = none) :
    Calls Try.prog 29 #[.slice A n c] w (KindP w 1 []) := by
  have HR := Lib.hid hR
  have HU := Lib.hid (Stf.of_none hu); clear hu
  clear hR
  go_enter Try.func29, Try.ntmps29
  go_wp2_with fail
  refine (runstuff_any _ _ _ _ _ HR.out (by omega)).mono ?_
  rintro e w1 ⟨Aq, cq, rfl, ho, hb⟩
  obtain ⟨eb, ee, el⟩ := HU.out
  rw [ee, el]
  rw [eb, el] at ho
  clear eb ee el
  
  go_wp2
  go_ret2
  exact ⟨none, 0, rfl, Rd.nil _ _ _, New.nil _, hb⟩
set_option maxHeartbeats 1000000 in
theorem kind_short (A : Option Addr) (n c : Nat) (l : List UInt8) (w : World) (hR : Rd w A n c l) (hn : n ≤ 260) {q : List UInt8} (hu : Stf.unstuff false l = some q) (h3 : q.length < 3) :
    Calls Try.prog 29 #[.slice A n c] w (KindP w 2 []) := by
  have HR := Lib.hid hR
  have HU := Lib.hid (Stf.of_some hu); clear hu
  clear hR
  go_enter Try.func29, Try.ntmps29
  go_wp2_with fail
  refine (runstuff_any _ _ _ _ _ HR.out (by omega)).mono ?_
  rintro e w1 ⟨Aq, cq, rfl, ho, hb⟩
  obtain ⟨eb, ee, el⟩ := HU.out
  rw [ee, el]
  rw [eb, el] at ho
  clear eb ee el
  obtain ⟨m, hm⟩ : ∃ m, m = q.length := ⟨_, rfl⟩
  rw [← hm] at h3 ho ⊢
  clear hm ho
  go_wp2
  go_ret2
  exact ⟨none, 0, rfl, Rd.nil _ _ _, New.nil _, hb⟩
set_option maxHeartbeats 1000000 in
theorem kind_bad (A : Option Addr) (n c : Nat) (l : List UInt8) (w : World) (hR : Rd w A n c l) (hn : n ≤ 260) {q : List UInt8} (hu : Stf.unstuff false l = some q) (h3 : ¬ q.length < 3) (hq : q.length ≤ 260) (hr : Crc.right q = false) :
    Calls Try.prog 29 #[.slice A n c] w (KindP w 3 []) := by
  have HR := Lib.hid hR
  have HU := Lib.hid (Stf.of_some hu); clear hu
  clear hR
  go_enter Try.func29, Try.ntmps29
  go_wp2_with fail
  refine (runstuff_any _ _ _ _ _ HR.out (by omega)).mono ?_
  rintro e w1 ⟨Aq, cq, rfl, ho, hb⟩
  obtain ⟨eb, ee, el⟩ := HU.out
  rw [ee, el]
  rw [eb, el] at ho
  clear eb ee el
  obtain ⟨m, hm⟩ : ∃ m, q.length = m + 2 := ⟨q.length - 2, by omega⟩
  rw [hm] at ho h3 hq ⊢
  have HQ := Lib.hid (ho.rd hm (by omega))
  have HA := Lib.hid (New.of_row ho)
  have HM := Lib.hid hm
  clear hm
  have HRT := Lib.hid hr
  have h3' : ¬ ((m : Int) + 2 < 3) := by omega
  clear hr ho
  go_wp2_with fail
  refine (rright_any Aq (m + 2) cq q _ HQ.out (by omega)).mono ?_
  rintro e w2 ⟨rfl, hb2⟩
  rw [HRT.out]
  have hb12 := hb.trans (hb2.mono hb.size)
  have HQ2 := Lib.hid (HQ.out.below hb2)
  go_wp2
  go_ret2
  exact ⟨none, 0, rfl, Rd.nil _ _ _, New.nil _, hb12⟩
set_option maxHeartbeats 1000000 in
theorem kind_long (A : Option Addr) (n c : Nat) (l : List UInt8) (w : World) (hR : Rd w A n c l) (hn : n ≤ 260) {q : List UInt8} (hu : Stf.unstuff false l = some q) (h3 : ¬ q.length < 3) (hq : q.length ≤ 260) (hr : Crc.right q = true) (h4 : 128 < q.length - 2) :
    Calls Try.prog 29 #[.slice A n c] w (KindP w 4 []) := by
  have HR := Lib.hid hR
  have HU := Lib.hid (Stf.of_some hu); clear hu
  clear hR
  go_enter Try.func29, Try.ntmps29
  go_wp2_with fail
  refine (runstuff_any _ _ _ _ _ HR.out (by omega)).mono ?_
  rintro e w1 ⟨Aq, cq, rfl, ho, hb⟩
  obtain ⟨eb, ee, el⟩ := HU.out
  rw [ee, el]
  rw [eb, el] at ho
  clear eb ee el
  obtain ⟨m, hm⟩ : ∃ m, q.length = m + 2 := ⟨q.length - 2, by omega⟩
  rw [hm] at ho h3 hq h4 ⊢
  have HQ := Lib.hid (ho.rd hm (by omega))
  have HA := Lib.hid (New.of_row ho)
  have HM := Lib.hid hm
  clear hm
  have HRT := Lib.hid hr
  have h3' : ¬ ((m : Int) + 2 < 3) := by omega
  clear hr ho
  go_wp2_with fail
  refine (rright_any Aq (m + 2) cq q _ HQ.out (by omega)).mono ?_
  rintro e w2 ⟨rfl, hb2⟩
  rw [HRT.out]
  have hb12 := hb.trans (hb2.mono hb.size)
  have HQ2 := Lib.hid (HQ.out.below hb2)
  have h4' : (128 : Int) < (m : Int) := by omega
  go_wp2
  go_ret2
  exact ⟨none, 0, rfl, Rd.nil _ _ _, New.nil _, hb12⟩
set_option maxHeartbeats 1000000 in
theorem kind_good (A : Option Addr) (n c : Nat) (l : List UInt8) (w : World) (hR : Rd w A n c l) (hn : n ≤ 260) {q : List UInt8} (hu : Stf.unstuff false l = some q) (h3 : ¬ q.length < 3) (hq : q.length ≤ 260) (hr : Crc.right q = true) (h4 : ¬ 128 < q.length - 2) :
    Calls Try.prog 29 #[.slice A n c] w (KindP w 0 (q.take (q.length - 2))) := by
  have HR := Lib.hid hR
  have HU := Lib.hid (Stf.of_some hu); clear hu
  clear hR
  go_enter Try.func29, Try.ntmps29
  go_wp2_with fail
  refine (runstuff_any _ _ _ _ _ HR.out (by omega)).mono ?_
  rintro e w1 ⟨Aq, cq, rfl, ho, hb⟩
  obtain ⟨eb, ee, el⟩ := HU.out
  rw [ee, el]
  rw [eb, el] at ho
  clear eb ee el
  obtain ⟨m, hm⟩ : ∃ m, q.length = m + 2 := ⟨q.length - 2, by omega⟩
  rw [hm] at ho h3 hq h4 ⊢
  have HQ := Lib.hid (ho.rd hm (by omega))
  have HA := Lib.hid (New.of_row ho)
  have HM := Lib.hid hm
  clear hm
  have HRT := Lib.hid hr
  have h3' : ¬ ((m : Int) + 2 < 3) := by omega
  clear hr ho
  go_wp2_with fail
  refine (rright_any Aq (m + 2) cq q _ HQ.out (by omega)).mono ?_
  rintro e w2 ⟨rfl, hb2⟩
  rw [HRT.out]
  have hb12 := hb.trans (hb2.mono hb.size)
  have HQ2 := Lib.hid (HQ.out.below hb2)
  have h4' : ¬ (128 : Int) < (m : Int) := by omega
  have g0 : (0 : Int) ≤ (m : Int) := by omega
  have g2 : (m : Int) ≤ (cq : Int) := by have := HQ.out.cap; omega
  go_wp2_with fail
  go_quiet (fail)
  go_wp2
  go_ret2
  have e1 : q.take (q.length - 2) = q.take m := by rw [HM.out, Nat.add_sub_cancel]
  have hr := (HQ2.out.take (k := m) (by omega)).below (Stays.drewN w2 nq |> fun h => (below_drewN (Below.refl _ _) nq))
  have e2 : (q.take m).length = m := hr.len
  rw [e1]
  exact ⟨Aq, cq, by rw [e2]; rfl, by rw [e2]; exact hr, HA.out, below_drewN hb12 nq⟩

theorem kind_any (A : Option Addr) (n c : Nat) (l : List UInt8) (w : World) (hR : Rd w A n c l) (hn : n ≤ 260) :
    Calls Try.prog 29 #[.slice A n c] w (KindP w (Hdl.kind l).1 (Hdl.kind l).2) := by
  have hln := hR.len
  cases hu : Stf.unstuff false l with
  | none =>
    have e1 : Hdl.kind l = (1, []) := by simp [Hdl.kind, hu]
    rw [e1]
    exact kind_broken A n c l w hR hn hu
  | some q =>
    have hq : q.length ≤ 260 := by have h1 := Stf.there _ _ hu; have h2 := (Stf.size_bounds q).1; rw [h1] at h2; omega
    by_cases h3 : q.length < 3
    · have e1 : Hdl.kind l = (2, []) := by simp [Hdl.kind, hu, h3]
      rw [e1]
      exact kind_short A n c l w hR hn hu h3
    · by_cases hr : Crc.right q = false
      · have e1 : Hdl.kind l = (3, []) := by simp [Hdl.kind, hu, h3, hr]
        rw [e1]
        exact kind_bad A n c l w hR hn hu h3 hq hr
      · have hr' : Crc.right q = true := by simpa using hr
        by_cases h4 : 128 < q.length - 2
        · have e1 : Hdl.kind l = (4, []) := by simp [Hdl.kind, hu, h3, hr', h4]
          rw [e1]
          exact kind_long A n c l w hR hn hu h3 hq hr' h4
        · have e1 : Hdl.kind l = (0, q.take (q.length - 2)) := by simp [Hdl.kind, hu, h3, hr', h4]
          rw [e1]
          exact kind_good A n c l w hR hn hu h3 hq hr' h4

set_option maxHeartbeats 1000000 in
theorem count_0 (m : Hdl.Met) (w : World) (hm : m.Le 4611686018427387904) : Calls Try.prog 30 #[mets m, .int .i64 0] w fun e w' => e = .returned (mets (Hdl.count m 0)) ∧ Below w.heap.size w w' := by
  obtain ⟨m1, m2, m3, m4, m5⟩ := hm
  have hw := wrap_up (m := m.good) (by assumption)
  unfold mets
  go_enter Try.func30, Try.ntmps30
  go_wp2
  go_returns
  exact ⟨by simp [Hdl.count], by repeat (first | exact Below.refl _ _ | refine Below.alloc ?_ (by first | exact Nat.le_refl _ | (simp; done) | (simp; omega)) _ | refine Below.setCell ?_ (by simp) _)⟩
set_option maxHeartbeats 1000000 in
theorem count_1 (m : Hdl.Met) (w : World) (hm : m.Le 4611686018427387904) : Calls Try.prog 30 #[mets m, .int .i64 1] w fun e w' => e = .returned (mets (Hdl.count m 1)) ∧ Below w.heap.size w w' := by
  obtain ⟨m1, m2, m3, m4, m5⟩ := hm
  have hw := wrap_up (m := m.broken) (by assumption)
  unfold mets
  go_enter Try.func30, Try.ntmps30
  go_wp2
  go_returns
  exact ⟨by simp [Hdl.count], by repeat (first | exact Below.refl _ _ | refine Below.alloc ?_ (by first | exact Nat.le_refl _ | (simp; done) | (simp; omega)) _ | refine Below.setCell ?_ (by simp) _)⟩
set_option maxHeartbeats 1000000 in
theorem count_2 (m : Hdl.Met) (w : World) (hm : m.Le 4611686018427387904) : Calls Try.prog 30 #[mets m, .int .i64 2] w fun e w' => e = .returned (mets (Hdl.count m 2)) ∧ Below w.heap.size w w' := by
  obtain ⟨m1, m2, m3, m4, m5⟩ := hm
  have hw := wrap_up (m := m.short) (by assumption)
  unfold mets
  go_enter Try.func30, Try.ntmps30
  go_wp2
  go_returns
  exact ⟨by simp [Hdl.count], by repeat (first | exact Below.refl _ _ | refine Below.alloc ?_ (by first | exact Nat.le_refl _ | (simp; done) | (simp; omega)) _ | refine Below.setCell ?_ (by simp) _)⟩
set_option maxHeartbeats 1000000 in
theorem count_3 (m : Hdl.Met) (w : World) (hm : m.Le 4611686018427387904) : Calls Try.prog 30 #[mets m, .int .i64 3] w fun e w' => e = .returned (mets (Hdl.count m 3)) ∧ Below w.heap.size w w' := by
  obtain ⟨m1, m2, m3, m4, m5⟩ := hm
  have hw := wrap_up (m := m.bad) (by assumption)
  unfold mets
  go_enter Try.func30, Try.ntmps30
  go_wp2
  go_returns
  exact ⟨by simp [Hdl.count], by repeat (first | exact Below.refl _ _ | refine Below.alloc ?_ (by first | exact Nat.le_refl _ | (simp; done) | (simp; omega)) _ | refine Below.setCell ?_ (by simp) _)⟩
set_option maxHeartbeats 1000000 in
theorem count_4 (m : Hdl.Met) (w : World) (hm : m.Le 4611686018427387904) : Calls Try.prog 30 #[mets m, .int .i64 4] w fun e w' => e = .returned (mets (Hdl.count m 4)) ∧ Below w.heap.size w w' := by
  obtain ⟨m1, m2, m3, m4, m5⟩ := hm
  have hw := wrap_up (m := m.long) (by assumption)
  unfold mets
  go_enter Try.func30, Try.ntmps30
  go_wp2
  go_returns
  exact ⟨by simp [Hdl.count], by repeat (first | exact Below.refl _ _ | refine Below.alloc ?_ (by first | exact Nat.le_refl _ | (simp; done) | (simp; omega)) _ | refine Below.setCell ?_ (by simp) _)⟩
theorem count_any (m : Hdl.Met) (k : Nat) (hk : k ≤ 4) (w : World) (hm : m.Le 4611686018427387904) : Calls Try.prog 30 #[mets m, .int .i64 (k : Int)] w fun e w' => e = .returned (mets (Hdl.count m k)) ∧ Below w.heap.size w w' := by
  match k, hk with
  | 0, _ => exact count_0 m w hm
  | 1, _ => exact count_1 m w hm
  | 2, _ => exact count_2 m w hm
  | 3, _ => exact count_3 m w hm
  | 4, _ => exact count_4 m w hm

end Go.Proofs.Ytpfilomckijmkaa
