/-
  THE PROGRAM ANSWERS (awake): an id's text at small numbers.
-/
import Derived.Test.YtmdjjlgaflpcfaaDoorMsgPut
import Derived.Test.YtmdjjlgaflpcfaaDoorItoaSmall
import Derived.Deep.QuietTactic
import Derived.BigQuiet
namespace Go.Proofs.YtmdjjlgaflpcfaaDoor
open Go.RowKit Mg

theorem itoa_one (i : Nat) (hi : i < 10) (w : World) : Calls Tryd.prog 36 #[.int .i64 (i : Int)] w fun e w' => e = .returned (.string ⟨#[UInt8.ofNat (48 + i)]⟩) ∧ w' = w := by
  have h := Tryd.strconv_Itoa_small i (by omega) w
  have e : Lib.decDigits i = [UInt8.ofNat (48 + i)] := by rw [Lib.decDigits]; simp [hi]
  rwa [e] at h

set_option maxRecDepth 100000 in
set_option maxHeartbeats 4000000 in
theorem text_awake (w : World) : Calls Tryd.prog 27 #[idv ⟨1, 2, 3, 4⟩] w fun e w' => e = .returned (.tuple #[.string ⟨#[49, 62, 50, 58, 51, 46, 52]⟩, .int .i64 0]) ∧ Below w.heap.size w w' := by
  have hck := fun W => check_any ⟨1, 2, 3, 4⟩ W
  rw [show chk ⟨1, 2, 3, 4⟩ = 0 from by decide] at hck
  unfold idv at hck ⊢
  simp only at hck ⊢
  have HC := Lib.hid hck
  clear hck
  go_enter Tryd.func27, Tryd.ntmps27
  go_wp2_with fail
  refine (HC.out _).mono ?_
  rintro en w1 ⟨rfl, hb⟩
  have hs : w.heap.size < w1.heap.size := by have := hb.size; simp at this; omega
  have k0 : w1.cell? ⟨w.heap.size, 0, none⟩ = some (.int .i64 1) := (hb.cell (p := ⟨w.heap.size, 0, none⟩) (by simp)).trans (World.cell?_alloc_mark w _ _ _ 0)
  have k1 : w1.cell? ⟨w.heap.size, 1, none⟩ = some (.int .i64 2) := (hb.cell (p := ⟨w.heap.size, 1, none⟩) (by simp)).trans (World.cell?_alloc_mark w _ _ _ 1)
  have k2 : w1.cell? ⟨w.heap.size, 2, none⟩ = some (.int .i64 3) := (hb.cell (p := ⟨w.heap.size, 2, none⟩) (by simp)).trans (World.cell?_alloc_mark w _ _ _ 2)
  have k3 : w1.cell? ⟨w.heap.size, 3, none⟩ = some (.int .i64 4) := (hb.cell (p := ⟨w.heap.size, 3, none⟩) (by simp)).trans (World.cell?_alloc_mark w _ _ _ 3)
  have HB := Lib.hid (((Below.refl w.heap.size w).alloc (Nat.le_refl _) _).trans (hb.mono (by simp)))
  clear hb
  go_wp2_with fail
  go_quiet ((first | (go_at_call 36; exact Calls.quiet_of_same (itoa_one 1 (by decide) _)) | (go_at_call 36; exact Calls.quiet_of_same (itoa_one 2 (by decide) _)) | (go_at_call 36; exact Calls.quiet_of_same (itoa_one 3 (by decide) _)) | (go_at_call 36; exact Calls.quiet_of_same (itoa_one 4 (by decide) _))))
  go_wp2
  go_ret2
  have hstr : (⟨#[49]⟩ ++ ⟨#[62]⟩ ++ ⟨#[50]⟩ ++ ⟨#[58]⟩ ++ ⟨#[51]⟩ ++ ⟨#[46]⟩ ++ ⟨#[52]⟩ : ByteArray) = ⟨#[49, 62, 50, 58, 51, 46, 52]⟩ := by kernel_rfl
  exact ⟨congrArg (fun s => Ending.returned (.tuple #[.string s, .int .i64 0])) hstr, by repeat (first | exact HB.out | exact below_drewN HB.out _)⟩
set_option maxRecDepth 100000 in
set_option maxHeartbeats 4000000 in
theorem awake_any (w : World) : Calls Tryd.prog 12 #[] w fun e w' => e = .returned (.bool true) ∧ Below w.heap.size w w' := by
  have HP := Lib.hid (fun W => putid_ok 1 2 3 4 W (by omega) (by omega) (by omega) (by omega) (by omega) (by omega) (by decide))
  have HT := Lib.hid (fun W => text_awake W)
  have HL := Lib.hid (fun W => less_any ⟨1, 2, 3, 4⟩ ⟨2, 0, 0, 0⟩ W)
  simp only [idv] at HP HT HL
  go_enter Tryd.func12, Tryd.ntmps12
  go_wp2_with fail
  refine (HP.out _).mono ?_
  rintro e w1 ⟨A1, c1, rfl, ho, hb⟩
  have hs : w.heap.size < w1.heap.size := by have := hb.size; simp at this; omega
  have k0 : w1.cell? ⟨w.heap.size, 0, none⟩ = some (.int .i64 1) := (hb.cell (p := ⟨w.heap.size, 0, none⟩) (by simp)).trans (World.cell?_alloc_mark w _ _ _ 0)
  have k1 : w1.cell? ⟨w.heap.size, 1, none⟩ = some (.int .i64 2) := (hb.cell (p := ⟨w.heap.size, 1, none⟩) (by simp)).trans (World.cell?_alloc_mark w _ _ _ 1)
  have k2 : w1.cell? ⟨w.heap.size, 2, none⟩ = some (.int .i64 3) := (hb.cell (p := ⟨w.heap.size, 2, none⟩) (by simp)).trans (World.cell?_alloc_mark w _ _ _ 2)
  have k3 : w1.cell? ⟨w.heap.size, 3, none⟩ = some (.int .i64 4) := (hb.cell (p := ⟨w.heap.size, 3, none⟩) (by simp)).trans (World.cell?_alloc_mark w _ _ _ 3)
  have HB := Lib.hid (((Below.refl w.heap.size w).alloc (Nat.le_refl _) _).trans (hb.mono (by simp)))
  have hl6 : (idB ⟨((1 : Nat) : Int), ((2 : Nat) : Int), ((3 : Nat) : Int), ((4 : Nat) : Int)⟩).length = 6 := by decide
  have hrd := ho.rd hl6 (by omega)
  clear hb ho hl6
  go_wp2_with fail
  refine (HT.out _).mono ?_
  rintro e w2 ⟨rfl, hb2⟩
  have hs2 : w.heap.size < w2.heap.size := Nat.lt_of_lt_of_le hs hb2.size
  have k0' := (hb2.cell (p := ⟨w.heap.size, 0, none⟩) hs).trans k0
  have k1' := (hb2.cell (p := ⟨w.heap.size, 1, none⟩) hs).trans k1
  have k2' := (hb2.cell (p := ⟨w.heap.size, 2, none⟩) hs).trans k2
  have k3' := (hb2.cell (p := ⟨w.heap.size, 3, none⟩) hs).trans k3
  have kc := (hrd.below hb2).string (P := Tryd.prog) 25 9 5 Tryd.underlying25 Tryd.underlying5 Tryd.underlying9
  have hid6 : (⟨(idB ⟨((1 : Nat) : Int), ((2 : Nat) : Int), ((3 : Nat) : Int), ((4 : Nat) : Int)⟩).toArray⟩ : ByteArray) = ⟨#[1, 2, 0, 3, 0, 4]⟩ := by kernel_rfl
  rw [hid6] at kc
  have HB2 := Lib.hid (HB.out.trans (hb2.mono HB.out.size))
  clear hb2 hrd hid6 k0 k1 k2 k3
  go_wp2_with fail
  refine (HL.out _).mono ?_
  rintro e w3 ⟨rfl, hb3⟩
  rw [show less ⟨1, 2, 3, 4⟩ ⟨2, 0, 0, 0⟩ = true from by decide]
  go_wp2
  go_ret
  exact ⟨rfl, HB2.out.trans (hb3.mono HB2.out.size)⟩
end Go.Proofs.YtmdjjlgaflpcfaaDoor
