/-
  A CONTENT'S FRAME, OR WHY THERE IS NONE: the contract of both, and the law HdlcEncodes.
-/
import Derived.Test.YtpfilomckijmkaaHdlcEnc
import Derived.Test.YtpfilomckijmkaaHdlcAwake
namespace Go.Proofs.Ytpfilomckijmkaa
open Go.RowKit

def Hdl.encB (l : List UInt8) : List UInt8 := if l.length = 0 ∨ 128 < l.length then [] else Hdl.frame l
def Hdl.encE (l : List UInt8) : Int := if l.length = 0 then 2 else if 128 < l.length then 3 else 0

/-- what Encode gives -/
def EncP (w : World) (q : List UInt8) (N : Nat) (E : Int) (e : Ending) (w' : World) : Prop :=
  ∃ A' c', e = .returned (.tuple #[.slice A' N c', .int .i64 E]) ∧ Rd w' A' N c' q ∧ (∀ b off, A' = some ⟨b, off, none⟩ → w.heap.size ≤ b) ∧ Below w.heap.size w w'
theorem encode_any (A : Option Addr) (n c : Nat) (l : List UInt8) (w : World) (hR : Rd w A n c l) :
    Calls Try.prog 20 #[.slice A n c] w (EncP w (Hdl.encB l) (Hdl.encB l).length (Hdl.encE l)) := by
  have hl := hR.len
  by_cases h : n = 0 ∨ 128 < n
  · have e1 : Hdl.encB l = [] := by rw [Hdl.encB, hl, if_pos h]
    have e2 : Hdl.encE l = (if n = 0 then 2 else 3) := by
      rw [Hdl.encE, hl]
      by_cases h0 : n = 0
      · rw [if_pos h0, if_pos h0]
      · rw [if_neg h0, if_neg h0, if_pos (h.resolve_left h0)]
    rw [e1, e2]
    refine (encode_bad A n c w h).mono ?_
    rintro e w' ⟨rfl, rfl⟩
    exact ⟨none, 0, rfl, Rd.nil _ _ _, fun _ _ e => by simp at e, Below.refl _ _⟩
  · have e1 : Hdl.encB l = Hdl.frame l := by rw [Hdl.encB, hl, if_neg h]
    have e2 : Hdl.encE l = 0 := by rw [Hdl.encE, hl, if_neg (by omega), if_neg (by omega)]
    rw [e1, e2]
    refine (encode_ok A n c l w hR (by omega) (by omega)).mono ?_
    rintro e w' ⟨A', N, c', rfl, rfl, hr, hA, hb⟩
    exact ⟨A', c', rfl, hr, hA, hb⟩
theorem rencode_any (A : Option Addr) (n c : Nat) (l : List UInt8) (w : World) (hR : Rd w A n c l) :
    Calls Try.prog 21 #[.slice A n c] w (EncP w (Hdl.encB l) (Hdl.encB l).length (Hdl.encE l)) := by
  have hl := hR.len
  by_cases h : n = 0 ∨ 128 < n
  · have e1 : Hdl.encB l = [] := by rw [Hdl.encB, hl, if_pos h]
    have e2 : Hdl.encE l = (if n = 0 then 2 else 3) := by
      rw [Hdl.encE, hl]
      by_cases h0 : n = 0
      · rw [if_pos h0, if_pos h0]
      · rw [if_neg h0, if_neg h0, if_pos (h.resolve_left h0)]
    rw [e1, e2]
    refine (rencode_bad A n c w h).mono ?_
    rintro e w' ⟨rfl, rfl⟩
    exact ⟨none, 0, rfl, Rd.nil _ _ _, fun _ _ e => by simp at e, Below.refl _ _⟩
  · have e1 : Hdl.encB l = Hdl.frame l := by rw [Hdl.encB, hl, if_neg h]
    have e2 : Hdl.encE l = 0 := by rw [Hdl.encE, hl, if_neg (by omega), if_neg (by omega)]
    rw [e1, e2]
    refine (rencode_ok A n c l w hR (by omega) (by omega)).mono ?_
    rintro e w' ⟨A', N, c', rfl, rfl, hr, hA, hb⟩
    exact ⟨A', c', rfl, hr, hA, hb⟩

set_option maxHeartbeats 2000000 in
/-- HdlcEncodes -/
theorem encodes_law (A : Option Addr) (n c : Nat) (l : List UInt8) (w : World) (hR : Rd w A n c l) (hn : n ≤ 140737488355000) :
    Calls Try.prog 6 #[.slice A n c] w fun e w' => e = .returned (.bool true) ∧ Below w.heap.size w w' := by
  have hlen := Lib.hid hR.len
  have T := fun W A c h => encode_any A n c l W h
  have R2 := fun W h => rencode_any A n c l W h
  obtain ⟨q, hq⟩ : ∃ q, q = Hdl.encB l := ⟨_, rfl⟩
  obtain ⟨N, hN⟩ : ∃ N, N = q.length := ⟨_, rfl⟩
  obtain ⟨E, hE⟩ : ∃ E, E = Hdl.encE l := ⟨_, rfl⟩
  simp only [← hE, ← hq] at T R2
  simp only [← hN] at T R2
  have HT := Lib.hid T
  have HR2 := Lib.hid R2
  clear T R2 hN hq hE
  go_enter Try.func6, Try.ntmps6
  go_wp2_with (at_builtin; refine wpList_app _ rfl elemB (.tmp 9) (.tmp 10) rfl rfl (own_empty _ w.heap.size _ _ 1 (by simp) (by omega)) rfl ((hR.stays (Stays.alloc w _)).src) n (by omega) (by omega) (by simp) ?_; intro A1 c1 w2 hown1 hg1 hat1)
  have hb2 := below_app' ((Below.refl _ _).alloc (Nat.le_refl _) _) (own_empty _ w.heap.size _ _ 1 (by simp) (by omega)) hg1 (Nat.le_refl _) (by simp)
  have ho2 := OwnB.of hown1 l (by simp)
  clear hown1 hg1 hat1
  refine (HT.out _ _ _ (ho2.rd hlen.out (by omega))).mono ?_
  rintro e w3 ⟨A2, c2, rfl, ho3, hA2, hb3⟩
  have hb4 := hb2.trans (hb3.mono hb2.size)
  have HG : Hid (∀ g, A1 = some ⟨g, 0, none⟩ → g < w2.heap.size) := fun g hg => by
    subst hg
    exact (ho2.lt g rfl).2
  have HA2 := Lib.hid hA2
  have hs2 := hb2.size
  have hs3 := hb3.size
  clear hA2
  go_wp2_with fail
  refine (HR2.out _ (hR.below hb4)).mono ?_
  rintro e w4 ⟨A3, c3, rfl, ho5, hA3, hb5⟩
  have HA3 := Lib.hid hA3
  have hb6 := hb4.trans (hb5.mono hb4.size)
  have ho4 := ho3.below hb5
  have ho6 := own_below (own_below ho2 hb3) hb5
  clear hA3 hb2 hb4 ho2 ho3 hb3 hb5 hR
  go_wp2_with fail
  go_loopw [8] (fun i wr => ∃ k : Nat, k ≤ n ∧ i = .int .i64 k ∧ (∃ x : List UInt8, x.length = n ∧ OwnB wr w.heap.size 5 (.slice A1 n c1) x) ∧ Rd wr A2 N c2 q ∧ Rd wr A3 N c3 q ∧ Below w.heap.size w wr) (fun i _ => n - (intOf i).toNat)
  case atStart => exact ⟨0, Nat.zero_le _, rfl, ⟨l, hlen.out, ho6⟩, ho4, ho5, hb6⟩
  case round =>
    obtain ⟨k, hk, rfl, ⟨x, hx, hox⟩, h2, h3, hb⟩ := hrel
    by_cases hlt : k < n
    · obtain ⟨g, rfl, hg, hgl⟩ := hox.at_ hx (by omega)
      have hgw := HG.out g rfl
      have hcell := hox.cell hx k hlt
      have hfree := hox.free hx k
      have hst := hox.store hx k (255 - x.getD k 0)
      obtain ⟨y, hy⟩ : ∃ y, y = x.getD k 0 := ⟨_, rfl⟩
      rw [← hy] at hcell hst
      have h2' : Rd (wr.setCell ⟨g, k, none⟩ (bv (255 - y))) A2 N c2 q := h2.keep (by simp) (fun b off e _ => heap_setCell_other _ _ _ _ (by have := HA2.out b off e; show b ≠ g; omega))
      have h3' : Rd (wr.setCell ⟨g, k, none⟩ (bv (255 - y))) A3 N c3 q := h3.keep (by simp) (fun b off e _ => heap_setCell_other _ _ _ _ (by have := HA3.out b off e; show b ≠ g; omega))
      have H1 := Lib.hid hst
      have H2 := Lib.hid h2'
      have H3 := Lib.hid h3'
      have HX := Lib.hid hx
      clear hst h2 h3 h2' h3' hx hy
      go_wp2_with fail
      go_roundw
      case rel =>
        rw [inv_byte]
        exact ⟨k + 1, by omega, by go_num, ⟨_, by rw [List.length_set]; exact HX.out, H1.out⟩, H2.out, H3.out, hb.setCell hg _⟩
      case measure => simp [intOf]; omega
    · obtain rfl : n = k := by omega
      have kc2 := h2.string (P := Try.prog) 25 9 5 Try.underlying25 Try.underlying5 Try.underlying9
      have kc3 := h3.string (P := Try.prog) 25 9 5 Try.underlying25 Try.underlying5 Try.underlying9
      clear h2 h3
      go_wp2_with fail
      refine (awake_any _).mono ?_
      rintro e w5 ⟨rfl, hb5⟩
      go_wp2
      go_ret
      exact ⟨rfl, hb.trans (hb5.mono hb.size)⟩
end Go.Proofs.Ytpfilomckijmkaa
