/-
  A FRAME IS FOUND (awake).
-/
import Derived.Test.YtpfilomckijmkaaHdlcClone
namespace Go.Proofs.Ytpfilomckijmkaa
open Go.RowKit

def Hdl.d0 : Hdl.Dec := ⟨true, [], ⟨0, 0, 0, 0, 0⟩⟩
theorem Hdl.ok0 : Hdl.Ok Hdl.d0 := ⟨by decide, by decide, fun _ => rfl⟩
theorem Hdl.le0 : Hdl.d0.met.Le 0 := ⟨by decide, by decide, by decide, by decide, by decide⟩
def awakeIn : List UInt8 := [255, 126, 1, 241, 225, 126, 126]
theorem awake_feed : Hdl.feed Hdl.d0 awakeIn = (⟨false, [], ⟨1, 0, 0, 0, 0⟩⟩, [[1]]) := by kernel_rfl

/-- one thing that is told, as a cell and its bytes -/
theorem told_one {w : World} {B C : Nat} {I : Value} {A : Option Addr} {c : Nat} {xs : List Value} {ls : List (List UInt8)} {n : Nat} (hs : Sl w B 25 (.slice A n c) n xs) (h : Told w C I xs ls) (hb : ∀ l ∈ ls, l.length ≤ 281474976710656) (j : Nat) (l : List UInt8) (hj : ls[j]? = some l) :
    ∃ (b off : Nat) (A' : Option Addr) (c' : Nat), A = some ⟨b, off, none⟩ ∧ b < w.heap.size ∧ w.cell? ⟨b, off + j, none⟩ = some (.slice A' l.length c') ∧ Rd w A' l.length c' l := by
  obtain ⟨A', c', hx, hl, _⟩ := h.2 j l hj
  have hn : 0 < n := by
    have := (List.getElem?_eq_some_iff.1 hx).1
    have := hs.1
    omega
  obtain ⟨g, off, rfl, _, hg, hc⟩ := hs.cell hn
  exact ⟨g, off, A', c', rfl, hg, hc j _ hx, hl.rd (hb l (List.mem_of_getElem? hj))⟩

set_option maxHeartbeats 1000000 in
theorem awake_any (w : World) : Calls Try.prog 18 #[] w fun e w' => e = .returned (.bool true) ∧ Below w.heap.size w w' := by
  have HF := Lib.hid awake_feed
  have kc := fun (w : World) (C : Array Value) (n c : Nat) => Lib.run_convert_bytes_const (P := Try.prog) w 25 5 C n c Try.underlying25 Try.underlying5
  go_enter Try.func18, Try.ntmps18
  go_wp2_with fail
  refine (dnew_any w).mono ?_
  rintro e w1 ⟨rfl, hd, hb⟩
  have hlt := hd.lt
  have hs := hb.size
  have HD := Lib.hid (hd.below ((Below.refl _ _).alloc (Nat.le_refl _) (.cells (bs awakeIn).toArray 5 (7, 8))))
  have HR := Lib.hid (rd_lit w1 awakeIn 7 rfl (by omega) 5 (7, 8))
  have HB := Lib.hid (hb.alloc hs (.cells (bs awakeIn).toArray 5 (7, 8)))
  clear hd hb
  go_wp2_with fail
  refine (dfeed_any (d := Hdl.d0) _ _ 7 7 awakeIn HD.out HR.out ?_ Hdl.ok0 0 Hdl.le0 (by omega) (by simp)).mono ?_
  · rintro _ b off e (h1 | h1 | h1)
    · injection e with e
      injection e with e1
      omega
    · simp [Value.ownBlock] at h1
    · simp [Value.ownBlock] at h1
  rintro e w2 ⟨I', AT, cT, xs', rfl, hd, hs2, ht2, hk, _, _⟩
  rw [HF.out] at hd hs2 ht2
  rw [HF.out]
  have hb2 : Below w.heap.size w w2 := HB.out.trans (hk.below HB.out.size (by
    rintro i hi (h1 | h1 | h1)
    · omega
    · simp [Value.ownBlock] at h1
    · simp [Value.ownBlock] at h1))
  obtain ⟨b, off, A1, c1, rfl, hbl, hc, hrd⟩ := told_one (n := 1) hs2 ht2 (by simp) 0 [1] rfl
  have kv := hrd.string (P := Try.prog) 25 9 5 Try.underlying25 Try.underlying5 Try.underlying9
  have HD2 := Lib.hid hd
  have HB2 := Lib.hid hb2
  clear hk hd hs2 ht2 hb2 hrd
  simp only [List.nil_append, List.length_cons, List.length_nil, Nat.zero_add, Nat.add_zero] at hc kv ⊢
  go_wp2_with fail
  refine (dstats_any _ HD2.out).mono ?_
  rintro e w3 ⟨rfl, hb3⟩
  have HB3 := Lib.hid (HB2.out.trans (hb3.mono HB2.out.size))
  clear hb3
  simp only [mets]
  go_wp2
  go_ret
  exact ⟨rfl, HB3.out⟩

set_option maxHeartbeats 1000000 in
/-- HdlcNil -/
theorem nil_law (A : Option Addr) (n c : Nat) (w : World) : Calls Try.prog 5 #[.slice A n c] w fun e w' => e = .returned (.bool true) ∧ Below w.heap.size w w' := by
  go_enter Try.func5, Try.ntmps5
  go_wp2_with fail
  refine (dfeed_nil _ A n c).mono ?_
  rintro e w1 ⟨rfl, rfl⟩
  go_wp2_with fail
  refine (dstats_nil _).mono ?_
  rintro e w1 ⟨rfl, hb⟩
  simp only [mets]
  go_wp2_with fail
  refine (dinside_nil _).mono ?_
  rintro e w2 ⟨rfl, rfl⟩
  go_wp2_with fail
  refine (dclone_nil _).mono ?_
  rintro e w3 ⟨rfl, rfl⟩
  go_wp2_with fail
  refine (awake_any _).mono ?_
  rintro e w4 ⟨rfl, hb4⟩
  go_wp2
  go_ret
  exact ⟨rfl, hb.trans (hb4.mono hb.size)⟩
end Go.Proofs.Ytpfilomckijmkaa
