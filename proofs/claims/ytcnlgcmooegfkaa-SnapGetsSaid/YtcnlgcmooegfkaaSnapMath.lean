/-
  PLAIN LAWS OF STATES: what a state is, why one may not be.
-/
import Derived.Test.YtcnlgcmooegfkaaMsgMath
namespace Go.Proofs.Ytcnlgcmooegfkaa
namespace Sn
open Mg

/-- a counter that was used for a destination; a message; a mark; a state -/
structure Nx where
  d : Int
  c : Int
deriving DecidableEq
structure Ms where
  i : Mid
  l : List UInt8
deriving DecidableEq
structure Mk where
  o : Int
  e : Int
  u : Int
  m : List Int
deriving DecidableEq
structure St where
  self : Int
  ep : Int
  nx : List Nx
  hd : List Ms
  sn : List Mk
deriving DecidableEq

/-- may the counters be, behind destination 'last'? -/
def nextB (self ep last : Int) : List Nx → Bool
  | [] => true
  | n :: r => (decide (last < n.d) && decide (0 ≤ n.d ∧ n.d ≤ 63) && decide (n.d ≠ self) && decide (1 ≤ n.c ∧ n.c ≤ 65535) && decide (ep ≠ 0)) && nextB self ep n.d r
def nextOk (s : St) : Bool := nextB s.self s.ep (-1) s.nx && decide (0 ≤ s.ep ∧ s.ep ≤ 65535)
/-- the last counter that was used for a destination; 0: none -/
def lastOf : List Nx → Int → Int
  | [], _ => 0
  | n :: r, d => if n.d = d then n.c else lastOf r d
/-- may a message come, behind others? -/
def okM (self ep : Int) (before : List Mid) (m : Ms) : Bool :=
  decide (chkM m.i m.l.length = 0) && decide (m.i.d ≠ self) && decide (¬ (m.i.o = self ∧ ep < m.i.e)) && decide (m.i ∉ before)
def appB (self ep : Int) (before : List Mid) : List Ms → Bool
  | [] => true
  | m :: r => okM self ep before m && appB self ep (before ++ [m.i]) r
/-- is no counter above the last one that was used? -/
def leM (self ep : Int) (nx : List Nx) (m : Ms) : Bool := decide (m.i.o = self ∧ m.i.e = ep → m.i.c ≤ lastOf nx m.i.d)
def holdB (s : St) : Bool := appB s.self s.ep [] s.hd && s.hd.all (leM s.self s.ep s.nx)
/-- may a mark be? -/
def moreB (last : Int) : List Int → Bool
  | [] => true
  | n :: r => (decide (last < n) && decide (n ≤ 65535)) && moreB n r
def rightB (m : Mk) : Bool :=
  decide (0 ≤ m.o ∧ m.o ≤ 63) && decide (1 ≤ m.e ∧ m.e ≤ 65535) && decide (0 ≤ m.u ∧ m.u ≤ 65535) && moreB (m.u + 1) m.m && (decide (0 < m.u) || decide (0 < m.m.length))
/-- is a mark behind another one? -/
def behind (a b : Mk) : Bool := decide (a.o < b.o ∨ (a.o = b.o ∧ a.e < b.e))
def marksB : Option Mk → List Mk → Bool
  | _, [] => true
  | none, m :: r => rightB m && marksB (some m) r
  | some p, m :: r => (rightB m && behind p m) && marksB (some m) r
def gaps (l : List Mk) : Nat := (l.map fun m => m.m.length).sum
def bytes (l : List Ms) : Nat := (l.map fun m => m.l.length).sum
def selfB (s : St) : Bool := s.sn.all fun m => decide (m.o ≠ s.self)
/-- why a state may not be -/
def ck (s : St) : Int :=
  if ¬ (0 ≤ s.self ∧ s.self ≤ 63) then 1
  else if (nextOk s && holdB s && selfB s && marksB none s.sn) = false then 2
  else if 256 < gaps s.sn ∨ 256 < s.hd.length ∨ 1048576 < bytes s.hd ∨ 65535 < s.sn.length then 6
  else 0

theorem nextB_drop {self ep last : Int} {l : List Nx} {k : Nat} {n : Nx} (h : l[k]? = some n) : nextB self ep last (l.drop k) = ((decide (last < n.d) && decide (0 ≤ n.d ∧ n.d ≤ 63) && decide (n.d ≠ self) && decide (1 ≤ n.c ∧ n.c ≤ 65535) && decide (ep ≠ 0)) && nextB self ep n.d (l.drop (k + 1))) := by
  obtain ⟨hk, rfl⟩ := List.getElem?_eq_some_iff.1 h; rw [List.drop_eq_getElem_cons hk, nextB]
theorem moreB_drop {last : Int} {l : List Int} {k : Nat} {n : Int} (h : l[k]? = some n) : moreB last (l.drop k) = ((decide (last < n) && decide (n ≤ 65535)) && moreB n (l.drop (k + 1))) := by
  obtain ⟨hk, rfl⟩ := List.getElem?_eq_some_iff.1 h; rw [List.drop_eq_getElem_cons hk, moreB]
theorem appB_drop {self ep : Int} {b : List Mid} {l : List Ms} {k : Nat} {m : Ms} (h : l[k]? = some m) : appB self ep b (l.drop k) = (okM self ep b m && appB self ep (b ++ [m.i]) (l.drop (k + 1))) := by
  obtain ⟨hk, rfl⟩ := List.getElem?_eq_some_iff.1 h; rw [List.drop_eq_getElem_cons hk, appB]
theorem marksB_drop {p : Option Mk} {l : List Mk} {k : Nat} {m : Mk} (h : l[k]? = some m) : marksB p (l.drop k) = ((rightB m && (match p with | none => true | some q => behind q m)) && marksB (some m) (l.drop (k + 1))) := by
  obtain ⟨hk, rfl⟩ := List.getElem?_eq_some_iff.1 h; rw [List.drop_eq_getElem_cons hk]
  cases p <;> simp [marksB]
end Sn
end Go.Proofs.Ytcnlgcmooegfkaa
