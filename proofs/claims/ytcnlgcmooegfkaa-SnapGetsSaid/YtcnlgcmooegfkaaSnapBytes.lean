/-
  THE BYTES OF A STATE.
-/
import Derived.Test.YtcnlgcmooegfkaaSnapLay
import Derived.Test.YtcnlgcmooegfkaaSnapUse
import Derived.Test.YtcnlgcmooegfkaaCrcMath
namespace Go.Proofs.Ytcnlgcmooegfkaa
namespace Sn
open Mg

def b1 (x : Int) : UInt8 := UInt8.ofNat x.toNat
def nxB (n : Nx) : List UInt8 := b1 n.d :: be n.c.toNat 2
def msB (m : Ms) : List UInt8 := UInt8.ofNat (6 + m.l.length) :: (idB m.i ++ m.l)
def mkB (m : Mk) : List UInt8 := b1 m.o :: (beL [m.e, m.u, (m.m.length : Int)] ++ beL m.m)
def nxsB (l : List Nx) : List UInt8 := (l.map nxB).flatten
def mssB (l : List Ms) : List UInt8 := (l.map msB).flatten
def mksB (l : List Mk) : List UInt8 := (l.map mkB).flatten
/-- ahead of the counters; up to the messages; up to the marks; all -/
def preB (s : St) : List UInt8 := [b1 s.self] ++ beL [s.ep] ++ [UInt8.ofNat s.nx.length]
def bodyB (s : St) : List UInt8 := preB s ++ nxsB s.nx ++ beL [(s.hd.length : Int)] ++ mssB s.hd ++ beL [(s.sn.length : Int)] ++ mksB s.sn
def putB (s : St) : List UInt8 := bodyB s ++ be (Crc.sum (bodyB s)) 4

theorem nxsB_snoc (l : List Nx) (n : Nx) : nxsB (l ++ [n]) = nxsB l ++ nxB n := by simp [nxsB]
theorem mssB_snoc (l : List Ms) (n : Ms) : mssB (l ++ [n]) = mssB l ++ msB n := by simp [mssB]
theorem mksB_snoc (l : List Mk) (n : Mk) : mksB (l ++ [n]) = mksB l ++ mkB n := by simp [mksB]
theorem nxB_len (n : Nx) : (nxB n).length = 3 := by simp [nxB, be_len]
theorem msB_len (m : Ms) : (msB m).length = 7 + m.l.length := by simp [msB, idB_len]; omega
theorem mkB_len (m : Mk) : (mkB m).length = 7 + 2 * m.m.length := by simp [mkB, beL_len]; omega
theorem preB_len (s : St) : (preB s).length = 4 := by simp [preB, beL_len]
theorem nxsB_len (l : List Nx) : (nxsB l).length = 3 * l.length := by
  induction l with
  | nil => rfl
  | cons x r ih =>
    have : nxsB (x :: r) = nxB x ++ nxsB r := by simp [nxsB]
    rw [this, List.length_append, ih, nxB_len, List.length_cons]; omega
theorem mssB_len (l : List Ms) : (mssB l).length = 7 * l.length + bytes l := by
  induction l with
  | nil => rfl
  | cons x r ih =>
    have e1 : mssB (x :: r) = msB x ++ mssB r := by simp [mssB]
    have e2 : bytes (x :: r) = x.l.length + bytes r := by simp [bytes]
    rw [e1, e2, List.length_append, ih, msB_len, List.length_cons]; omega
theorem mksB_len (l : List Mk) : (mksB l).length = 7 * l.length + 2 * gaps l := by
  induction l with
  | nil => rfl
  | cons x r ih =>
    have e1 : mksB (x :: r) = mkB x ++ mksB r := by simp [mksB]
    have e2 : gaps (x :: r) = x.m.length + gaps r := by simp [gaps]
    rw [e1, e2, List.length_append, ih, mkB_len, List.length_cons]; omega
theorem nextB_len {self ep : Int} : ∀ {l : List Nx} {last : Int}, nextB self ep last l = true → -1 ≤ last → last ≤ 63 → (l.length : Int) ≤ 63 - last
  | [], last, _, _, h => by simp; omega
  | x :: r, last, h, h0, _ => by
    have hi := nextB_in h x (List.mem_cons_self ..); have hr : nextB self ep x.d r = true := by
      simp only [nextB, Bool.and_eq_true] at h; exact h.2
    have := nextB_len hr (by omega) (by omega); simp only [List.length_cons]; omega
/-- what a right state's parts are -/
structure Ok (s : St) : Prop where
  self : 0 ≤ s.self ∧ s.self ≤ 63
  nx : nextB s.self s.ep (-1) s.nx = true
  ep : 0 ≤ s.ep ∧ s.ep ≤ 65535
  ap : appB s.self s.ep [] s.hd = true
  le : s.hd.all (leM s.self s.ep s.nx) = true
  selfB : selfB s = true
  mks : marksB none s.sn = true
  gaps : gaps s.sn ≤ 256
  hd : s.hd.length ≤ 256
  by_ : bytes s.hd ≤ 1048576
  sn : s.sn.length ≤ 65535
theorem ck_ok (s : St) : ck s = 0 ↔ Ok s := by
  unfold ck
  constructor
  · intro h
    by_cases h1 : ¬ (0 ≤ s.self ∧ s.self ≤ 63)
    · rw [if_pos h1] at h; cases h
    rw [if_neg h1] at h
    by_cases h2 : (nextOk s && holdB s && selfB s && marksB none s.sn) = false
    · rw [if_pos h2] at h; cases h
    rw [if_neg h2] at h
    by_cases h3 : 256 < gaps s.sn ∨ 256 < s.hd.length ∨ 1048576 < bytes s.hd ∨ 65535 < s.sn.length
    · rw [if_pos h3] at h; cases h
    have h2 : (nextOk s && holdB s && selfB s && marksB none s.sn) = true := by
      cases h9 : (nextOk s && holdB s && selfB s && marksB none s.sn) with
      | true => rfl
      | false => exact absurd h9 h2
    simp only [nextOk, holdB, Bool.and_eq_true, decide_eq_true_eq] at h2; exact ⟨Decidable.not_not.1 h1, h2.1.1.1.1, h2.1.1.1.2, h2.1.1.2.1, h2.1.1.2.2, h2.1.2, h2.2, by omega, by omega, by omega, by omega⟩
  · intro h; rw [if_neg (fun h1 => h1 h.self), if_neg, if_neg]
    · have := h.gaps; have := h.hd; have := h.by_; have := h.sn; omega
    · have h2 : (nextOk s && holdB s && selfB s && marksB none s.sn) = true := by
        simp only [nextOk, holdB, Bool.and_eq_true, decide_eq_true_eq]; exact ⟨⟨⟨⟨h.nx, h.ep⟩, h.ap, h.le⟩, h.selfB⟩, h.mks⟩
      rw [h2]; simp
theorem Ok.nxl {s : St} (h : Ok s) : s.nx.length ≤ 64 := by
  have := nextB_len h.nx (by omega) (by omega); omega
theorem nextB_c {self ep : Int} : ∀ {l : List Nx} {last : Int}, nextB self ep last l = true → ∀ n ∈ l, 1 ≤ n.c ∧ n.c ≤ 65535
  | x :: r, last, h, n, hn => by
    simp only [nextB, Bool.and_eq_true, decide_eq_true_eq] at h
    rcases List.mem_cons.1 hn with rfl | hn
    · exact h.1.1.2
    · exact nextB_c h.2 n hn
theorem marksB_in : ∀ {l : List Mk} {p : Option Mk}, marksB p l = true → ∀ m ∈ l, rightB m = true
  | x :: r, p, h, m, hm => by
    have h' : rightB x = true ∧ marksB (some x) r = true := by
      cases p <;> simp only [marksB, Bool.and_eq_true] at h
      · exact h
      · exact ⟨h.1.1, h.2⟩
    rcases List.mem_cons.1 hm with rfl | hm
    · exact h'.1
    · exact marksB_in h'.2 m hm
theorem moreB_in : ∀ {l : List Int} {last : Int}, moreB last l = true → ∀ x ∈ l, last < x ∧ x ≤ 65535
  | y :: r, last, h, x, hx => by
    simp only [moreB, Bool.and_eq_true, decide_eq_true_eq] at h
    rcases List.mem_cons.1 hx with rfl | hx
    · exact h.1
    · have := moreB_in h.2 x hx; omega
theorem rightB_in {m : Mk} (h : rightB m = true) : (0 ≤ m.o ∧ m.o ≤ 63) ∧ (1 ≤ m.e ∧ m.e ≤ 65535) ∧ (0 ≤ m.u ∧ m.u ≤ 65535) ∧ moreB (m.u + 1) m.m = true ∧ (0 < m.u ∨ 0 < m.m.length) := by
  simpa [rightB, and_assoc] using h
theorem bodyB_len {s : St} (h : Ok s) : (bodyB s).length ≤ 1600000 := by
  have h1 := h.nxl; have := h.gaps; have := h.hd; have := h.by_; have := h.sn; unfold bodyB; simp only [List.length_append, preB_len, nxsB_len, mssB_len, mksB_len, beL_len, List.length_cons, List.length_nil]; omega
end Sn
end Go.Proofs.Ytcnlgcmooegfkaa
