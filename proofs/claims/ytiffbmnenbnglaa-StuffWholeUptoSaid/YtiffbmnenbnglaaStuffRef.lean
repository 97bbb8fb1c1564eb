/-
  THE WALKS OF STUFFED BYTES, MORE: the reference's own.
-/
import Derived.Test.YtiffbmnenbnglaaStuffWalk
namespace Go.Proofs.Ytiffbmnenbnglaa
open Go.RowKit

set_option maxHeartbeats 2000000 in
/-- portageref03.Stuff -/
theorem rstuff_any (A : Option Addr) (n c : Nat) (l : List UInt8) (w : World) (hR : Rd w A n c l) (hn : n ≤ 70368744177000) :
    Calls Try.prog 15 #[.slice A n c] w fun e w' => ∃ A' c', e = .returned (.slice A' (Stf.size l) c') ∧ OwnB w' w.heap.size 5 (.slice A' (Stf.size l) c') (Stf.stuff l) ∧ Below w.heap.size w w' := by
  have hlen := Lib.hid hR.len
  go_enter Try.func15, Try.ntmps15
  go_wp2_with fail
  go_loopw [3, 4] (fun u i wr => ∃ k : Nat, k ≤ n ∧ i = .int .i64 k ∧ (∃ m : List UInt8, Hid (m = Stf.stuff (l.take k)) ∧ m.length ≤ 2 * k ∧ OwnB wr w.heap.size 5 u m) ∧ Below w.heap.size w wr) (fun _ i _ => n - (intOf i).toNat)
  case atStart => exact ⟨0, Nat.zero_le _, rfl, ⟨[], rfl, Nat.zero_le _, own_empty _ w.heap.size _ _ 1 rfl (Nat.le_refl _)⟩, (Below.refl _ _).alloc (Nat.le_refl _) _⟩
  case round =>
    obtain ⟨k, hk, rfl, ⟨m, HM, hml, ho⟩, hb⟩ := hrel
    by_cases hlt : k < n
    · obtain ⟨b, off, x, rfl, hb', hx, hcell⟩ := (hR.below hb).at' hlt
      have HS : Hid (Stf.stuff (l.take (k + 1)) = m ++ Stf.one x) := by
        show _ = _
        rw [HM.out, List.take_add_one, hx]
        exact Stf.stuff_snoc _ _
      unfold bv at hcell
      obtain ⟨y, hy⟩ : ∃ y, y = x.toNat := ⟨_, rfl⟩
      rw [← hy] at hcell
      clear hx
      by_cases h1 : x = 0x7e
      · have t1 := (tests x 126 126 rfl (by omega) true (by rw [h1]; rfl)).1
        have HO : Hid (bs (Stf.one x) = [.int .u8 125, .int .u8 94]) := by show _ = _; rw [h1]; rfl
        rw [← hy] at t1
        clear h1 hy
        go_wp2_with (at_builtin; refine wpList_app _ rfl elemB (.tmp 17) (.tmp 18) rfl rfl (World.ownsRow.alloc ho _) rfl (Src.new' wr _ rfl [_, _] _ 2 1 rfl (by simp [Value.oneCell'])) (m.length + 2) rfl (by omega) (by have := hb.size; simp; omega) ?_; intro A1 c1 w2 hown2 hg2 hat2)
        go_roundw
        case rel => exact ⟨k + 1, by omega, by go_num, ⟨_, HS.out.symm, by have := Stf.one_len x; simp; omega, OwnB.of hown2 _ (by rw [bs_append, HO.out])⟩, below_app' (hb.alloc hb.size _) (World.ownsRow.alloc ho _) hg2 (Nat.le_refl _) (by have := hb.size; simp; omega)⟩
        case measure => simp [intOf]; omega
      · have t1 := (tests x 126 126 rfl (by omega) false (by simpa using h1)).1
        by_cases h2 : x = 0x7d
        · have t2 := (tests x 125 125 rfl (by omega) true (by rw [h2]; rfl)).1
          have HO : Hid (bs (Stf.one x) = [.int .u8 125, .int .u8 93]) := by show _ = _; rw [h2]; rfl
          rw [← hy] at t1 t2
          clear h1 h2 hy
          go_wp2_with (at_builtin; refine wpList_app _ rfl elemB (.tmp 25) (.tmp 26) rfl rfl (World.ownsRow.alloc ho _) rfl (Src.new' wr _ rfl [_, _] _ 2 1 rfl (by simp [Value.oneCell'])) (m.length + 2) rfl (by omega) (by have := hb.size; simp; omega) ?_; intro A1 c1 w2 hown2 hg2 hat2)
          go_roundw
          case rel => exact ⟨k + 1, by omega, by go_num, ⟨_, HS.out.symm, by have := Stf.one_len x; simp; omega, OwnB.of hown2 _ (by rw [bs_append, HO.out])⟩, below_app' (hb.alloc hb.size _) (World.ownsRow.alloc ho _) hg2 (Nat.le_refl _) (by have := hb.size; simp; omega)⟩
          case measure => simp [intOf]; omega
        · have t2 := (tests x 125 125 rfl (by omega) false (by simpa using h2)).1
          have HO : Hid (bs (Stf.one x) = [.int .u8 (y : Int)]) := by show _ = _; rw [hy]; simp [Stf.one, h1, h2, bs, bv]
          rw [← hy] at t1 t2
          clear h1 h2 hy
          go_wp2_with (at_builtin; refine wpList_app _ rfl elemB (.tmp 28) (.tmp 33) rfl rfl (World.ownsRow.alloc ho _) rfl (Src.new' wr _ rfl [_] _ 1 1 rfl (by simp [Value.oneCell'])) (m.length + 1) rfl (by omega) (by have := hb.size; simp; omega) ?_; intro A1 c1 w2 hown2 hg2 hat2)
          go_roundw
          case rel => exact ⟨k + 1, by omega, by go_num, ⟨_, HS.out.symm, by have := Stf.one_len x; simp; omega, OwnB.of hown2 _ (by rw [bs_append, HO.out])⟩, below_app' (hb.alloc hb.size _) (World.ownsRow.alloc ho _) hg2 (Nat.le_refl _) (by have := hb.size; simp; omega)⟩
          case measure => simp [intOf]; omega
    · obtain rfl : n = k := by omega
      obtain ⟨A2, c2, rfl, _, _⟩ := ho.shape (by omega)
      have e : m = Stf.stuff l := by rw [HM.out, List.take_of_length_le (by rw [hlen.out]; exact Nat.le_refl _)]
      have HL : Hid (m.length = Stf.size l) := by show _ = _; rw [e]; rfl
      have HM2 := Lib.hid e
      clear e
      go_wp2
      go_ret
      rw [← HL.out, ← HM2.out]
      exact ⟨_, _, rfl, ho, hb⟩

set_option maxHeartbeats 2000000 in
/-- portageref03.Unstuff -/
theorem runstuff_any (A : Option Addr) (n c : Nat) (l : List UInt8) (w : World) (hR : Rd w A n c l) (hn : n ≤ 140737488355000) :
    Calls Try.prog 11 #[.slice A n c] w fun e w' => ∃ A' c', e = .returned (.tuple #[.slice A' (Stf.lenOf l) c', .int .i64 (Stf.errOf l)]) ∧ OwnB w' w.heap.size 5 (.slice A' (Stf.lenOf l) c') (Stf.bytesOf l) ∧ Below w.heap.size w w' := by
  have hlen := Lib.hid hR.len
  have hcap := hR.cap
  have hnil : ∀ w', Below w.heap.size w w' → Stf.unstuff false l = none → (∃ A' c', Ending.returned (.tuple #[.slice none 0 0, .int .i64 2]) = Ending.returned (.tuple #[.slice A' (Stf.lenOf l) c', .int .i64 (Stf.errOf l)]) ∧ OwnB w' w.heap.size 5 (.slice A' (Stf.lenOf l) c') (Stf.bytesOf l) ∧ Below w.heap.size w w') := by
    intro w' hb h
    obtain ⟨h1, h2, h3⟩ := Stf.of_none h
    rw [h1, h2, h3]
    exact ⟨none, 0, rfl, World.ownsRow_nil _ _ _ _, hb⟩
  have HN := Lib.hid hnil
  clear hnil
  go_enter Try.func11, Try.ntmps11
  go_wp2_with fail
  go_loopw [4, 5] (fun u i wr => ∃ k : Nat, k ≤ n ∧ i = .int .i64 k ∧ (∃ m : List UInt8, Hid (Stf.At l k false m) ∧ m.length ≤ k ∧ OwnB wr w.heap.size 5 u m) ∧ Below w.heap.size w wr) (fun _ i _ => n - (intOf i).toNat)
  case atStart => exact ⟨0, Nat.zero_le _, rfl, ⟨[], Stf.At.start l, Nat.zero_le _, own_empty _ w.heap.size _ _ 1 rfl (Nat.le_refl _)⟩, (Below.refl _ _).alloc (Nat.le_refl _) _⟩
  case round =>
    obtain ⟨k, hk, rfl, ⟨m, HM, hml, ho⟩, hb⟩ := hrel
    by_cases hlt : k < n
    · have hRw := hR.below hb
      obtain ⟨b, off, x, rfl, hb', hx, hcell⟩ := hRw.at' hlt
      have HX := Lib.hid hx
      unfold bv at hcell
      obtain ⟨y, hy⟩ : ∃ y, y = x.toNat := ⟨_, rfl⟩
      rw [← hy] at hcell
      by_cases h7 : x = 0x7e
      · have t7 := (tests x 126 126 rfl (by omega) true (by rw [h7]; rfl)).1
        have hnone := Lib.hid (HM.out.flag (by rw [HX.out, h7]))
        rw [← hy] at t7
        clear hx h7 hy
        go_wp2_with fail
        go_ret2
        exact HN.out _ hb hnone.out
      · have t7 := (tests x 126 126 rfl (by omega) false (by simpa using h7)).1
        by_cases h5 : x = 0x7d
        · have t5 := tests x 125 125 rfl (by omega) true (by rw [h5]; rfl)
          have HA := HM.out.esc (by rw [HX.out, h5])
          rw [← hy] at t7 t5
          obtain ⟨t5a, t5b⟩ := t5
          simp only [Bool.not_true] at t5b
          clear hx h7 h5 hy
          by_cases hend : k + 1 < n
          · obtain ⟨b2, off2, z, e2, hb2', hz, hcell2⟩ := hRw.at' hend
            injection e2 with e2
            injection e2 with e2a e2b
            subst e2a e2b
            have HZ := Lib.hid hz
            have hE := xor32 z
            have i1 : (k : Int) + 1 < (n : Int) := by omega
            have i2 : ((k : Int) + 1).toNat = k + 1 := by omega
            have i3 : (0 : Int) ≤ (k : Int) + 1 := by omega
            unfold bv at hcell2
            obtain ⟨v, hv⟩ : ∃ v, v = z.toNat := ⟨_, rfl⟩
            rw [← hv] at hcell2 hE
            have HE := Lib.hid hE
            clear hE hz
            by_cases h9 : z = 0x5e ∨ z = 0x5d
            · have HA2 := Lib.hid (HA.turn HZ.out h9)
              have HAx := Lib.hid HA
              clear HA
              by_cases h94 : z = 0x5e
              · have t94 := tests z 94 94 rfl (by omega) true (by rw [h94]; rfl)
                rw [← hv] at t94
                obtain ⟨ta, tb⟩ := t94
                simp only [Bool.not_true] at tb
                clear h9 h94 hv
                go_wp2_with (at_builtin; refine wpList_app _ rfl elemB (.tmp 51) (.tmp 58) rfl rfl (World.ownsRow.alloc ho _) rfl (Src.new' wr _ rfl [_] _ 1 1 rfl (by simp [Value.oneCell'])) (m.length + 1) rfl (by omega) (by have := hb.size; simp; omega) ?_; intro A1 c1 w2 hown2 hg2 hat2)
                go_roundw
                case rel => exact ⟨k + 1 + 1, by omega, by go_num, ⟨_, HA2.out, by simp; omega, OwnB.of hown2 _ (by rw [bs_append, ← HE.out])⟩, below_app' (hb.alloc hb.size _) (World.ownsRow.alloc ho _) hg2 (Nat.le_refl _) (by have := hb.size; simp; omega)⟩
                case measure => simp [intOf]; omega
              · have t94 := tests z 94 94 rfl (by omega) false (by simpa using h94)
                have t93 := tests z 93 93 rfl (by omega) true (by rw [show z = 0x5d from by simpa [h94] using h9]; rfl)
                rw [← hv] at t94 t93
                obtain ⟨ta, tb⟩ := t94
                obtain ⟨tc, td⟩ := t93
                simp only [Bool.not_true, Bool.not_false] at tb td
                clear h9 h94 hv
                go_wp2_with (at_builtin; refine wpList_app _ rfl elemB (.tmp 51) (.tmp 58) rfl rfl (World.ownsRow.alloc ho _) rfl (Src.new' wr _ rfl [_] _ 1 1 rfl (by simp [Value.oneCell'])) (m.length + 1) rfl (by omega) (by have := hb.size; simp; omega) ?_; intro A1 c1 w2 hown2 hg2 hat2)
                go_roundw
                case rel => exact ⟨k + 1 + 1, by omega, by go_num, ⟨_, HA2.out, by simp; omega, OwnB.of hown2 _ (by rw [bs_append, ← HE.out])⟩, below_app' (hb.alloc hb.size _) (World.ownsRow.alloc ho _) hg2 (Nat.le_refl _) (by have := hb.size; simp; omega)⟩
                case measure => simp [intOf]; omega
            · have h94 : ¬ z = 0x5e := fun h => h9 (.inl h)
              have h93 : ¬ z = 0x5d := fun h => h9 (.inr h)
              have hnone := Lib.hid (HA.bad HZ.out h94 h93)
              have t94 := tests z 94 94 rfl (by omega) false (by simpa using h94)
              have t93 := tests z 93 93 rfl (by omega) false (by simpa using h93)
              rw [← hv] at t94 t93
              obtain ⟨ta, tb⟩ := t94
              obtain ⟨tc, td⟩ := t93
              simp only [Bool.not_false] at tb td
              clear h9 h94 h93 hv HA
              go_wp2_with fail
              go_ret2
              exact HN.out _ hb hnone.out
          · have hnone := Lib.hid (show Stf.unstuff false l = none by simpa using HA.ended (by rw [hlen.out]; omega))
            have i1 : ¬ (k : Int) + 1 < (n : Int) := by omega
            clear HA
            go_wp2_with fail
            go_ret2
            exact HN.out _ hb hnone.out
        · have t5 := tests x 125 125 rfl (by omega) false (by simpa using h5)
          have HA := Lib.hid (HM.out.plain HX.out h7 h5)
          have HY : Hid (([.int .u8 (y : Int)] : List Value) = bs [x]) := by show _ = _; rw [hy]; rfl
          rw [← hy] at t7 t5
          obtain ⟨t5a, t5b⟩ := t5
          simp only [Bool.not_false] at t5b
          clear hx h7 h5 hy
          go_wp2_with (at_builtin; refine wpList_app _ rfl elemB (.tmp 23) (.tmp 28) rfl rfl (World.ownsRow.alloc ho _) rfl (Src.new' wr _ rfl [_] _ 1 1 rfl (by simp [Value.oneCell'])) (m.length + 1) rfl (by omega) (by have := hb.size; simp; omega) ?_; intro A1 c1 w2 hown2 hg2 hat2)
          go_roundw
          case rel => exact ⟨k + 1, by omega, by go_num, ⟨_, HA.out, by simp; omega, OwnB.of hown2 _ (by rw [bs_append, ← HY.out])⟩, below_app' (hb.alloc hb.size _) (World.ownsRow.alloc ho _) hg2 (Nat.le_refl _) (by have := hb.size; simp; omega)⟩
          case measure => simp [intOf]; omega
    · obtain rfl : n = k := by omega
      have hend := Stf.At.ended HM.out (by rw [hlen.out]; exact Nat.le_refl _)
      obtain ⟨h1, h2, h3⟩ := Stf.of_some (show Stf.unstuff false l = some m by simpa using hend)
      obtain ⟨A2, c2, rfl, _, _⟩ := ho.shape (by omega)
      have H1 := Lib.hid h1
      have H2 := Lib.hid h2
      have H3 := Lib.hid h3
      clear hend h1 h2 h3
      go_wp2_with fail
      go_ret2
      rw [H1.out, H2.out, H3.out]
      exact ⟨_, _, rfl, ho, hb⟩
end Go.Proofs.Ytiffbmnenbnglaa
