/-
  THE WALKS OF A FRAME'S BYTES: hdlc.Encode and the document's.
-/
import Derived.Test.YtpfilomckijmkaaCrcMore
import Derived.Test.YtpfilomckijmkaaStuffRef
import Derived.Test.YtpfilomckijmkaaCells
namespace Go.Proofs.Ytpfilomckijmkaa
open Go.RowKit

/-- a frame's bytes -/
def Hdl.frame (l : List UInt8) : List UInt8 := 0x7e :: (Stf.stuff (Crc.added l) ++ [0x7e])

set_option maxHeartbeats 1000000 in
theorem encode_bad (A : Option Addr) (n c : Nat) (w : World) (hn : n = 0 ∨ 128 < n) :
    Calls Try.prog 20 #[.slice A n c] w fun e w' => e = .returned (.tuple #[.slice none 0 0, .int .i64 (if n = 0 then 2 else 3)]) ∧ w = w' := by
  by_cases h0 : n = 0
  · subst h0
    go_enter Try.func20, Try.ntmps20
    go_wp2
    go_ret2
    exact ⟨rfl, rfl⟩
  · have t1 : ((n : Int) == 0) = false := by simp; omega
    have t2 : decide ((128 : Int) < n) = true := by simp; omega
    rw [if_neg h0]
    clear h0 hn
    go_enter Try.func20, Try.ntmps20
    go_wp2
    go_ret2
    exact ⟨rfl, rfl⟩
set_option maxHeartbeats 1000000 in
theorem rencode_bad (A : Option Addr) (n c : Nat) (w : World) (hn : n = 0 ∨ 128 < n) :
    Calls Try.prog 21 #[.slice A n c] w fun e w' => e = .returned (.tuple #[.slice none 0 0, .int .i64 (if n = 0 then 2 else 3)]) ∧ w = w' := by
  by_cases h0 : n = 0
  · subst h0
    go_enter Try.func21, Try.ntmps21
    go_wp2
    go_ret2
    exact ⟨rfl, rfl⟩
  · have t1 : ((n : Int) == 0) = false := by simp; omega
    have t2 : decide ((128 : Int) < n) = true := by simp; omega
    rw [if_neg h0]
    clear h0 hn
    go_enter Try.func21, Try.ntmps21
    go_wp2
    go_ret2
    exact ⟨rfl, rfl⟩

/-- a literal's row is the call's own -/
theorem own_lit (w : World) (base g : Nat) (hg : g = w.heap.size) (hb : base ≤ g) (cs : List Value) (e : TypeId) (hm : cs.length ≤ maxLen) : (w.alloc (.cells cs.toArray e)).ownsRow base e 1 (.slice (some ⟨g, 0, none⟩) cs.length cs.length) cs.length cs := by
  subst hg
  refine ⟨by omega, .inr ⟨w.heap.size, cs.length, cs.toArray, rfl, hb, heap_alloc_new w _, Nat.le_refl _, hm, by simp, by simp⟩⟩

set_option maxHeartbeats 2000000 in
theorem encode_ok (A : Option Addr) (n c : Nat) (l : List UInt8) (w : World) (hR : Rd w A n c l) (h1 : 1 ≤ n) (h2 : n ≤ 128) :
    Calls Try.prog 20 #[.slice A n c] w fun e w' => ∃ A' N c', e = .returned (.tuple #[.slice A' N c', .int .i64 0]) ∧ N = (Hdl.frame l).length ∧ Rd w' A' N c' (Hdl.frame l) ∧ (∀ b off, A' = some ⟨b, off, none⟩ → w.heap.size ≤ b) ∧ Below w.heap.size w w' := by
  have t1 : ((n : Int) == 0) = false := by simp; omega
  have t2 : decide ((128 : Int) < n) = false := by simp; omega
  have HR := Lib.hid (hR.stays (.alloc w (.cells #[.int .u8 126] 5)))
  have hal : (Crc.added l).length = n + 2 := by simp [Crc.added, hR.len]
  have HAL := Lib.hid hal
  have hsz := Stf.size_bounds (Crc.added l)
  have HSZ := Lib.hid (show Stf.size (Crc.added l) ≤ 260 from by have := hsz.2; unfold Stf.size; omega)
  clear hR hal hsz
  go_enter Try.func20, Try.ntmps20
  go_wp2_with (go_at_call 25; refine (cadd_any A n c l _ HR.out (by omega)).mono ?_; rintro e w1 ⟨A1, c1, rfl, ho1, hb1⟩)
  refine (stuff_any A1 (n + 2) c1 (Crc.added l) w1 (ho1.rd HAL.out (by omega)) (by omega)).mono ?_
  rintro e w2 ⟨A2, c2, rfl, ho2, hb2⟩
  obtain ⟨S, hS⟩ : ∃ S, S = Stf.stuff (Crc.added l) := ⟨_, rfl⟩
  obtain ⟨M, hM⟩ : ∃ M, M = Stf.size (Crc.added l) := ⟨_, rfl⟩
  rw [← hS, ← hM] at ho2
  rw [← hM] at HSZ
  have hsl : S.length = M := by rw [hS, hM]; rfl
  have HS := Lib.hid hS
  have HM := Lib.hid hM
  have HSL := Lib.hid hsl
  simp only [← hM]
  have hb12 := hb1.trans (hb2.mono hb1.size)
  have hrow := own_below (own_lit w w.heap.size w.heap.size rfl (Nat.le_refl _) [.int .u8 126] 5 (by unfold maxLen; simp)) hb12
  have HROW := Lib.hid hrow
  have hMb := HSZ.out
  have HR2 := Lib.hid (ho2.rd hsl (by omega))
  have hlt2 : w.heap.size + 1 ≤ w2.heap.size := by have := hb12.size; simpa using this
  have HB2 := Lib.hid (((Below.refl w.heap.size w).alloc (Nat.le_refl _) (.cells #[.int .u8 126] 5)).trans (hb12.mono (by simp)))
  clear ho1 hb1 ho2 hb2 hS hM hsl hb12 hrow
  go_wp2_with (first
    | ((with_reducible show wpList _ _ _ (⟨some 15, _, _, _, _, _⟩ :: _) _ _); refine wpList_app _ rfl elemB (.tmp 11) (.tmp 14) rfl rfl HROW.out rfl HR2.out.src (M + 1) (by simp; omega) (by omega) (by omega) ?_; intro A3 c3 w3 hown3 hg3 hat3; have HO3 := Lib.hid hown3; have HB3 := Lib.hid (below_app' HB2.out HROW.out hg3 (Nat.le_refl _) (by omega)); clear hown3 hg3 hat3)
    | ((with_reducible show wpList _ _ _ (⟨some 18, _, _, _, _, _⟩ :: _) _ _); refine wpList_app _ rfl elemB (.tmp 16) (.tmp 17) rfl rfl (HO3.out.alloc _) rfl (Src.new' w3 _ rfl [_] _ 1 1 rfl (by simp [Value.oneCell'])) (M + 2) rfl (by omega) (by have := HB3.out.size; simp; omega) ?_; intro A4 c4 w4 hown4 hg4 hat4; have HB4 := Lib.hid (below_app' (HB3.out.alloc HB3.out.size _) (HO3.out.alloc _) hg4 (Nat.le_refl _) (by have := HB3.out.size; simp; omega)); have HO4 := Lib.hid hown4; clear hown4 hg4 hat4))
  go_ret2
  have hbs : [Value.int .u8 126] ++ bs S ++ [Value.int .u8 126] = bs (Hdl.frame l) := by rw [HS.out]; simp [Hdl.frame, bs, bv]
  have ho := HO4.out
  rw [hbs] at ho
  have hfl : (Hdl.frame l).length = M + 2 := by have := HSL.out; rw [HS.out] at this; simp [Hdl.frame, this]
  exact ⟨A4, M + 2, c4, rfl, hfl.symm, (OwnB.of ho (Hdl.frame l) rfl).rd hfl (by have := HSZ.out; omega), fun b off e => by subst e; exact (World.ownsRow.lt ho b rfl).1, HB4.out⟩
set_option maxHeartbeats 2000000 in
theorem rencode_ok (A : Option Addr) (n c : Nat) (l : List UInt8) (w : World) (hR : Rd w A n c l) (h1 : 1 ≤ n) (h2 : n ≤ 128) :
    Calls Try.prog 21 #[.slice A n c] w fun e w' => ∃ A' N c', e = .returned (.tuple #[.slice A' N c', .int .i64 0]) ∧ N = (Hdl.frame l).length ∧ Rd w' A' N c' (Hdl.frame l) ∧ (∀ b off, A' = some ⟨b, off, none⟩ → w.heap.size ≤ b) ∧ Below w.heap.size w w' := by
  have t1 : ((n : Int) == 0) = false := by simp; omega
  have t2 : decide ((128 : Int) < n) = false := by simp; omega
  have HR := Lib.hid (hR.stays (.alloc w (.cells #[.int .u8 126] 5)))
  have hal : (Crc.added l).length = n + 2 := by simp [Crc.added, hR.len]
  have HAL := Lib.hid hal
  have hsz := Stf.size_bounds (Crc.added l)
  have HSZ := Lib.hid (show Stf.size (Crc.added l) ≤ 260 from by have := hsz.2; unfold Stf.size; omega)
  clear hR hal hsz
  go_enter Try.func21, Try.ntmps21
  go_wp2_with (go_at_call 27; refine (radd_any A n c l _ HR.out (by omega)).mono ?_; rintro e w1 ⟨A1, c1, rfl, ho1, hb1⟩)
  refine (rstuff_any A1 (n + 2) c1 (Crc.added l) w1 (ho1.rd HAL.out (by omega)) (by omega)).mono ?_
  rintro e w2 ⟨A2, c2, rfl, ho2, hb2⟩
  obtain ⟨S, hS⟩ : ∃ S, S = Stf.stuff (Crc.added l) := ⟨_, rfl⟩
  obtain ⟨M, hM⟩ : ∃ M, M = Stf.size (Crc.added l) := ⟨_, rfl⟩
  rw [← hS, ← hM] at ho2
  rw [← hM] at HSZ
  have hsl : S.length = M := by rw [hS, hM]; rfl
  have HS := Lib.hid hS
  have HM := Lib.hid hM
  have HSL := Lib.hid hsl
  simp only [← hM]
  have hb12 := hb1.trans (hb2.mono hb1.size)
  have hrow := own_below (own_lit w w.heap.size w.heap.size rfl (Nat.le_refl _) [.int .u8 126] 5 (by unfold maxLen; simp)) hb12
  have HROW := Lib.hid hrow
  have hMb := HSZ.out
  have HR2 := Lib.hid (ho2.rd hsl (by omega))
  have hlt2 : w.heap.size + 1 ≤ w2.heap.size := by have := hb12.size; simpa using this
  have HB2 := Lib.hid (((Below.refl w.heap.size w).alloc (Nat.le_refl _) (.cells #[.int .u8 126] 5)).trans (hb12.mono (by simp)))
  clear ho1 hb1 ho2 hb2 hS hM hsl hb12 hrow
  go_wp2_with (first
    | ((with_reducible show wpList _ _ _ (⟨some 16, _, _, _, _, _⟩ :: _) _ _); refine wpList_app _ rfl elemB (.tmp 12) (.tmp 15) rfl rfl HROW.out rfl HR2.out.src (M + 1) (by simp; omega) (by omega) (by omega) ?_; intro A3 c3 w3 hown3 hg3 hat3; have HO3 := Lib.hid hown3; have HB3 := Lib.hid (below_app' HB2.out HROW.out hg3 (Nat.le_refl _) (by omega)); clear hown3 hg3 hat3)
    | ((with_reducible show wpList _ _ _ (⟨some 19, _, _, _, _, _⟩ :: _) _ _); refine wpList_app _ rfl elemB (.tmp 17) (.tmp 18) rfl rfl (HO3.out.alloc _) rfl (Src.new' w3 _ rfl [_] _ 1 1 rfl (by simp [Value.oneCell'])) (M + 2) rfl (by omega) (by have := HB3.out.size; simp; omega) ?_; intro A4 c4 w4 hown4 hg4 hat4; have HB4 := Lib.hid (below_app' (HB3.out.alloc HB3.out.size _) (HO3.out.alloc _) hg4 (Nat.le_refl _) (by have := HB3.out.size; simp; omega)); have HO4 := Lib.hid hown4; clear hown4 hg4 hat4))
  go_ret2
  have hbs : [Value.int .u8 126] ++ bs S ++ [Value.int .u8 126] = bs (Hdl.frame l) := by rw [HS.out]; simp [Hdl.frame, bs, bv]
  have ho := HO4.out
  rw [hbs] at ho
  have hfl : (Hdl.frame l).length = M + 2 := by have := HSL.out; rw [HS.out] at this; simp [Hdl.frame, this]
  exact ⟨A4, M + 2, c4, rfl, hfl.symm, (OwnB.of ho (Hdl.frame l) rfl).rd hfl (by have := HSZ.out; omega), fun b off e => by subst e; exact (World.ownsRow.lt ho b rfl).1, HB4.out⟩
end Go.Proofs.Ytpfilomckijmkaa
