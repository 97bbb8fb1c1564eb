/-
  THE WALKS OF STUFFED BYTES: the program's and the reference's functions, said with the plain law's words.
-/
import Derived.Test.YtiffbmnenbnglaaKit
import Derived.Test.YtiffbmnenbnglaaStuffMath
namespace Go.Proofs.Ytiffbmnenbnglaa
open Go.RowKit

/-- a byte's tests, as the walk spells them -/
theorem byte_eq (x : UInt8) (k : Nat) (hk : k < 256) : (((x.toNat : Int)) == (k : Int)) = (x == UInt8.ofNat k) := by
  rw [Bool.eq_iff_iff]
  simp only [beq_iff_eq]
  constructor
  · intro h
    apply UInt8.toNat_inj.1
    rw [UInt8.toNat_ofNat']
    omega
  · rintro rfl
    rw [UInt8.toNat_ofNat']
    have := Nat.mod_eq_of_lt hk
    omega
theorem xor_byte (x : UInt8) (k : Nat) (hk : k < 256) : Value.int .u8 (bits .xor .u8 (x.toNat : Int) (k : Int)) = bv (x ^^^ UInt8.ofNat k) := by
  have hx := x.toNat_lt
  rw [u8_xor_nat _ _ (by simpa using hx) hk]
  unfold bv
  rw [UInt8.toNat_xor, UInt8.toNat_ofNat', Nat.mod_eq_of_lt hk]
theorem xor32 (x : UInt8) : ([.int .u8 (bits .xor .u8 (x.toNat : Int) 32)] : List Value) = bs [x ^^^ 0x20] := by
  have := xor_byte x 32 (by omega)
  simp only [bs, List.map_cons, List.map_nil]
  rw [← show Value.int .u8 (bits .xor .u8 (x.toNat : Int) 32) = bv (x ^^^ 0x20) from this]
theorem xor0 (x : UInt8) : ([.int .u8 (bits .xor .u8 (x.toNat : Int) 0)] : List Value) = bs [x] := by
  have := xor_byte x 0 (by omega)
  simp only [bs, List.map_cons, List.map_nil]
  rw [show Value.int .u8 (bits .xor .u8 (x.toNat : Int) 0) = bv (x ^^^ UInt8.ofNat 0) from this]
  simp

set_option maxHeartbeats 1000000 in
/-- stuff.Stuff -/
theorem stuff_any (A : Option Addr) (n c : Nat) (l : List UInt8) (w : World) (hR : Rd w A n c l) (hn : n ≤ 70368744177000) :
    Calls Try.prog 13 #[.slice A n c] w fun e w' => ∃ A' c', e = .returned (.slice A' (Stf.size l) c') ∧ OwnB w' w.heap.size 5 (.slice A' (Stf.size l) c') (Stf.stuff l) ∧ Below w.heap.size w w' := by
  have hlen := Lib.hid hR.len
  obtain ⟨i0, hi0, hz0, hz1, hz2⟩ := info_parts elemB.info
  go_enter Try.func13, Try.ntmps13
  go_wp2_with (at_make; refine wpList_make_own _ rfl _ _ 22 rfl w.heap.size 5 i0 _ 1 Try.underlying22 hi0 hz0 hz1 _ _ _ n rfl rfl rfl (by rw [hz2]; omega) (by unfold maxLen; omega) (Nat.le_refl _) ?_; intro w1 hown1 hg1)
  have hb1 : Below w.heap.size w w1 := (Below.refl _ _).grown hg1 (Nat.le_refl _) (by intro k hk; cases hk)
  have ho1 := OwnB.of hown1 [] rfl
  clear hown1 hg1 hi0 hz0 hz1 hz2
  go_loopw [3, 12] (fun u i wr => ∃ k : Nat, k ≤ n ∧ i = .int .i64 k ∧ (∃ m : List UInt8, Hid (m = Stf.stuff (l.take k)) ∧ m.length ≤ 2 * k ∧ OwnB wr w.heap.size 5 u m) ∧ Below w.heap.size w wr) (fun _ i _ => n - (intOf i).toNat)
  case atStart => exact ⟨0, Nat.zero_le _, rfl, ⟨[], rfl, Nat.zero_le _, ho1⟩, hb1⟩
  case round =>
    obtain ⟨k, hk, rfl, ⟨m, HM, hml, ho⟩, hb⟩ := hrel
    by_cases hlt : k < n
    · obtain ⟨b, off, x, rfl, hb', hx, hcell⟩ := (hR.below hb).at' hlt
      have HS : Hid (Stf.stuff (l.take (k + 1)) = m ++ Stf.one x) := by
        show _ = _
        rw [HM.out, List.take_add_one, hx]
        exact Stf.stuff_snoc _ _
      have t1 := byte_eq x 126 (by omega)
      have t2 := byte_eq x 125 (by omega)
      have e1 := xor32 x
      have e0 := xor0 x
      have HE1 := Lib.hid e1
      have HE0 := Lib.hid e0
      unfold bv at hcell
      obtain ⟨y, hy⟩ : ∃ y, y = x.toNat := ⟨_, rfl⟩
      have hy256 : y < 256 := by rw [hy]; have := x.toNat_lt; simpa using this
      rw [← hy] at t1 t2 hcell HE1 HE0
      clear hx e1 e0
      by_cases h1 : x = 0x7e
      · have s1 : ((y : Int) == 126) = true := by rw [show ((126 : Int)) = ((126 : Nat) : Int) from rfl, t1, h1]; rfl
        have HO : Hid (bs (Stf.one x) = [.int .u8 125] ++ [.int .u8 (bits .xor .u8 (y : Int) 32)]) := by
          show _ = _
          rw [HE1.out]
          simp [Stf.one, h1, bs, bv]
        clear t1 t2 h1 hy HE1 HE0
        go_wp2_with (first
          | (at_builtin; refine wpList_app _ rfl elemB (.tmp 20) (.tmp 21) rfl rfl (World.ownsRow.alloc ho _) rfl (Src.new' wr _ rfl [_] _ 1 1 rfl (by simp [Value.oneCell'])) (m.length + 1) rfl (by omega) (by have := hb.size; simp; omega) ?_; intro A1 c1 w2 hown2 hg2 hat2; have hb2 := below_app' (hb.alloc hb.size _) (World.ownsRow.alloc ho _) hg2 (Nat.le_refl _) (by have := hb.size; simp; omega))
          | (at_builtin; refine wpList_app _ rfl elemB (.tmp 23) (.tmp 27) rfl rfl (hown2.alloc _) rfl (Src.new' w2 _ rfl [_] _ 1 1 rfl (by simp [Value.oneCell'])) (m.length + 1 + 1) rfl (by omega) (by have := hb2.size; simp; omega) ?_; intro A2 c2 w3 hown3 hg3 hat3))
        go_roundw
        case rel => exact ⟨k + 1, by omega, by go_num, ⟨_, HS.out.symm, by have := Stf.one_len x; simp; omega, OwnB.of hown3 _ (by rw [bs_append, HO.out, List.append_assoc])⟩, below_app' (hb2.alloc hb2.size _) (hown2.alloc _) hg3 (Nat.le_refl _) (by have := hb2.size; simp; omega)⟩
        case measure => simp [intOf]; omega
      · by_cases h2 : x = 0x7d
        · have s1 : ((y : Int) == 126) = false := by rw [show ((126 : Int)) = ((126 : Nat) : Int) from rfl, t1, h2]; rfl
          have s2 : ((y : Int) == 125) = true := by rw [show ((125 : Int)) = ((125 : Nat) : Int) from rfl, t2, h2]; rfl
          have HO : Hid (bs (Stf.one x) = [.int .u8 125] ++ [.int .u8 (bits .xor .u8 (y : Int) 32)]) := by
            show _ = _
            rw [HE1.out]
            simp [Stf.one, h2, bs, bv]
          clear t1 t2 h1 h2 hy HE1 HE0
          go_wp2_with (first
            | (at_builtin; refine wpList_app _ rfl elemB (.tmp 20) (.tmp 21) rfl rfl (World.ownsRow.alloc ho _) rfl (Src.new' wr _ rfl [_] _ 1 1 rfl (by simp [Value.oneCell'])) (m.length + 1) rfl (by omega) (by have := hb.size; simp; omega) ?_; intro A1 c1 w2 hown2 hg2 hat2; have hb2 := below_app' (hb.alloc hb.size _) (World.ownsRow.alloc ho _) hg2 (Nat.le_refl _) (by have := hb.size; simp; omega))
            | (at_builtin; refine wpList_app _ rfl elemB (.tmp 23) (.tmp 27) rfl rfl (hown2.alloc _) rfl (Src.new' w2 _ rfl [_] _ 1 1 rfl (by simp [Value.oneCell'])) (m.length + 1 + 1) rfl (by omega) (by have := hb2.size; simp; omega) ?_; intro A2 c2 w3 hown3 hg3 hat3))
          go_roundw
          case rel => exact ⟨k + 1, by omega, by go_num, ⟨_, HS.out.symm, by have := Stf.one_len x; simp; omega, OwnB.of hown3 _ (by rw [bs_append, HO.out, List.append_assoc])⟩, below_app' (hb2.alloc hb2.size _) (hown2.alloc _) hg3 (Nat.le_refl _) (by have := hb2.size; simp; omega)⟩
          case measure => simp [intOf]; omega
        · have s1 : ((y : Int) == 126) = false := by rw [show ((126 : Int)) = ((126 : Nat) : Int) from rfl, t1]; simpa using h1
          have s2 : ((y : Int) == 125) = false := by rw [show ((125 : Int)) = ((125 : Nat) : Int) from rfl, t2]; simpa using h2
          have HO : Hid (bs (Stf.one x) = [.int .u8 (bits .xor .u8 (y : Int) 0)]) := by
            show _ = _
            rw [HE0.out]
            simp [Stf.one, h1, h2]
          clear t1 t2 h1 h2 hy HE1 HE0
          go_wp2_with (at_builtin; refine wpList_app _ rfl elemB (.tmp 23) (.tmp 27) rfl rfl (World.ownsRow.alloc ho _) rfl (Src.new' wr _ rfl [_] _ 1 1 rfl (by simp [Value.oneCell'])) (m.length + 1) rfl (by omega) (by have := hb.size; simp; omega) ?_; intro A1 c1 w2 hown2 hg2 hat2)
          go_roundw
          case rel => exact ⟨k + 1, by omega, by go_num, ⟨_, HS.out.symm, by have := Stf.one_len x; simp; omega, OwnB.of hown2 _ (by rw [bs_append, HO.out])⟩, below_app' (hb.alloc hb.size _) (World.ownsRow.alloc ho _) hg2 (Nat.le_refl _) (by have := hb.size; simp; omega)⟩
          case measure => simp [intOf]; omega
    · obtain rfl : n = k := by omega
      obtain ⟨A2, c2, rfl, _, _⟩ := ho.shape (by omega)
      have e : m = Stf.stuff l := by rw [HM.out, List.take_of_length_le (by rw [hlen.out]; exact Nat.le_refl _)]
      have HL : Hid (m.length = Stf.size l) := by show _ = _; rw [e]; rfl
      have HM2 := Lib.hid e
      clear e
      go_wp2
      go_ret
      rw [← HL.out, ← HM2.out]
      exact ⟨_, _, rfl, ho, hb⟩

theorem size_succ {l : List UInt8} {k : Nat} {x : UInt8} (hx : l[k]? = some x) : Stf.size (l.take (k + 1)) = Stf.size (l.take k) + (Stf.one x).length := by
  unfold Stf.size
  rw [List.take_add_one, hx]
  have := congrArg List.length (Stf.stuff_snoc (l.take k) x)
  simpa using this
theorem size_le (l : List UInt8) : Stf.size l ≤ 2 * l.length ∧ l.length ≤ Stf.size l := ⟨(Stf.size_bounds l).2, (Stf.size_bounds l).1⟩

set_option maxHeartbeats 1000000 in
/-- stuff.Size -/
theorem size_any (A : Option Addr) (n c : Nat) (l : List UInt8) (w : World) (hR : Rd w A n c l) (hn : n ≤ 70368744177000) :
    Calls Try.prog 16 #[.slice A n c] w fun e w' => e = .returned (.int .i64 (Stf.size l : Int)) ∧ w = w' := by
  have hlen := Lib.hid hR.len
  go_enter Try.func16, Try.ntmps16
  go_wp2_with fail
  go_loop [3, 10] (fun u i => ∃ k m : Nat, k ≤ n ∧ i = .int .i64 k ∧ u = .int .i64 (m : Int) ∧ m ≤ 2 * n ∧ Hid (m + k = Stf.size (l.take k) + n)) (fun _ i => n - (intOf i).toNat)
  case atStart => exact ⟨0, n, Nat.zero_le _, rfl, rfl, by omega, by show _ = _; simp [Stf.size, Stf.stuff]⟩
  case round =>
    obtain ⟨k, m, hk, rfl, rfl, hm, HM⟩ := hrel
    by_cases hlt : k < n
    · obtain ⟨b, off, x, rfl, hb', hx, hcell⟩ := hR.at' hlt
      have t1 := byte_eq x 126 (by omega)
      have t2 := byte_eq x 125 (by omega)
      have hs := size_succ hx
      have hb1 := (size_le (l.take (k + 1))).1
      have hl1 : (l.take (k + 1)).length ≤ k + 1 := List.length_take_le _ _
      have hMo := HM.out
      have hle : (l.take k).length ≤ k := List.length_take_le _ _
      have hb0 := (size_le (l.take k)).1
      have hm1 : m + 1 ≤ 140737488355000 := by omega
      unfold bv at hcell
      obtain ⟨y, hy⟩ : ∃ y, y = x.toNat := ⟨_, rfl⟩
      rw [← hy] at t1 t2 hcell
      by_cases h1 : x = 0x7e ∨ x = 0x7d
      · have ho : (Stf.one x).length = 2 := by unfold Stf.one; rw [if_pos h1]; rfl
        have HN : Hid (m + 1 + (k + 1) = Stf.size (l.take (k + 1)) + n) := by show _ = _; omega
        have hm2 : m + 1 ≤ 2 * n := by omega
        by_cases h7 : x = 0x7e
        · have s1 : ((y : Int) == 126) = true := by rw [show ((126 : Int)) = ((126 : Nat) : Int) from rfl, t1, h7]; rfl
          clear t1 t2 h1 h7 hs hb1 hl1 hMo hle hb0 hy ho hx
          go_wp2_with fail
          go_round
          case rel => exact ⟨k + 1, m + 1, by omega, by go_num, by go_num, hm2, HN⟩
          case measure => simp [intOf]; omega
        · have s1 : ((y : Int) == 126) = false := by rw [show ((126 : Int)) = ((126 : Nat) : Int) from rfl, t1]; simpa using h7
          have s2 : ((y : Int) == 125) = true := by rw [show ((125 : Int)) = ((125 : Nat) : Int) from rfl, t2]; simpa [h7] using h1
          clear t1 t2 h1 h7 hs hb1 hl1 hMo hle hb0 hy ho hx
          go_wp2_with fail
          go_round
          case rel => exact ⟨k + 1, m + 1, by omega, by go_num, by go_num, hm2, HN⟩
          case measure => simp [intOf]; omega
      · have ho : (Stf.one x).length = 1 := by unfold Stf.one; rw [if_neg h1]; rfl
        have HN : Hid (m + (k + 1) = Stf.size (l.take (k + 1)) + n) := by show _ = _; omega
        have s1 : ((y : Int) == 126) = false := by rw [show ((126 : Int)) = ((126 : Nat) : Int) from rfl, t1]; simpa using fun h => h1 (.inl h)
        have s2 : ((y : Int) == 125) = false := by rw [show ((125 : Int)) = ((125 : Nat) : Int) from rfl, t2]; simpa using fun h => h1 (.inr h)
        clear t1 t2 h1 hs hb1 hl1 hMo hle hb0 hy ho hx
        go_wp2_with fail
        go_round
        case rel => exact ⟨k + 1, m, by omega, by go_num, rfl, hm, HN⟩
        case measure => simp [intOf]; omega
    · obtain rfl : n = k := by omega
      have HL : Hid (m = Stf.size l) := by
        have := HM.out
        rw [List.take_of_length_le (by rw [hlen.out]; exact Nat.le_refl _)] at this
        show _ = _
        omega
      go_wp2
      go_ret
      exact ⟨ret_int (by rw [HL.out]), rfl⟩

set_option maxHeartbeats 1000000 in
/-- portageref03.Has -/
theorem has_any (A : Option Addr) (n c : Nat) (l : List UInt8) (z : UInt8) (Z : Int) (hZ : Z = (z.toNat : Int)) (w : World) (hR : Rd w A n c l) :
    Calls Try.prog 14 #[.slice A n c, .int .u8 Z] w fun e w' => e = .returned (.bool (l.contains z)) ∧ w = w' := by
  have hlen := Lib.hid hR.len
  have hbig := hR.big
  have HZ := Lib.hid hZ
  clear hZ
  go_enter Try.func14, Try.ntmps14
  go_wp2_with fail
  go_loop [5] (fun i => ∃ k : Nat, k ≤ n ∧ i = .int .i64 k ∧ Hid ((l.take k).contains z = false)) (fun i => n - (intOf i).toNat)
  case atStart => exact ⟨0, Nat.zero_le _, rfl, by show _ = _; simp⟩
  case round =>
    obtain ⟨k, hk, rfl, HM⟩ := hrel
    by_cases hlt : k < n
    · obtain ⟨b, off, x, rfl, hb', hx, hcell⟩ := hR.at' hlt
      unfold bv at hcell
      obtain ⟨y, hy⟩ : ∃ y, y = x.toNat := ⟨_, rfl⟩
      rw [← hy] at hcell
      by_cases h1 : x = z
      · have s1 : ((y : Int) == Z) = true := by rw [HZ.out, hy, h1]; simp
        have HL : Hid (l.contains z = true) := by
          show _ = _
          rw [List.contains_iff_mem, ← h1]
          exact List.mem_of_getElem? hx
        clear h1 hy hx
        go_wp2_with fail
        go_ret
        exact ⟨ret_bool (by simpa using HL.out), rfl⟩
      · have s1 : ((y : Int) == Z) = false := by
          rw [HZ.out, hy, beq_eq_false_iff_ne]
          intro h
          exact h1 (UInt8.toNat_inj.1 (by omega))
        have HN : Hid ((l.take (k + 1)).contains z = false) := by
          show _ = _
          have := HM.out
          rw [List.take_add_one, hx]
          simp at this ⊢
          exact ⟨this, fun h => h1 h.symm⟩
        clear h1 hy hx
        go_wp2_with fail
        go_round
        case rel => exact ⟨k + 1, by omega, by go_num, HN⟩
        case measure => simp [intOf]; omega
    · obtain rfl : n = k := by omega
      have HL : Hid (l.contains z = false) := by
        have := HM.out
        rwa [List.take_of_length_le (by rw [hlen.out]; exact Nat.le_refl _)] at this
      go_wp2
      go_ret
      exact ⟨ret_bool (by simpa using HL.out), rfl⟩

/-- a byte's tests: what the walk is told of it -/
theorem tests (x : UInt8) (k : Nat) (K : Int) (hK : K = (k : Int)) (hk : k < 256) (b : Bool) (h : (x == UInt8.ofNat k) = b) : (((x.toNat : Int)) == K) = b ∧ (((x.toNat : Int)) != K) = !b := by
  subst hK
  have := byte_eq x k hk
  rw [h] at this
  exact ⟨this, by rw [bne, this]⟩

set_option maxHeartbeats 2000000 in
/-- stuff.Unstuff -/
theorem unstuff_any (A : Option Addr) (n c : Nat) (l : List UInt8) (w : World) (hR : Rd w A n c l) (hn : n ≤ 140737488355000) :
    Calls Try.prog 10 #[.slice A n c] w fun e w' => ∃ A' c', e = .returned (.tuple #[.slice A' (Stf.lenOf l) c', .int .i64 (Stf.errOf l)]) ∧ OwnB w' w.heap.size 5 (.slice A' (Stf.lenOf l) c') (Stf.bytesOf l) ∧ Below w.heap.size w w' := by
  have hlen := Lib.hid hR.len
  have hnil : ∀ w', Below w.heap.size w w' → Stf.unstuff false l = none → (∃ A' c', Ending.returned (.tuple #[.slice none 0 0, .int .i64 2]) = Ending.returned (.tuple #[.slice A' (Stf.lenOf l) c', .int .i64 (Stf.errOf l)]) ∧ OwnB w' w.heap.size 5 (.slice A' (Stf.lenOf l) c') (Stf.bytesOf l) ∧ Below w.heap.size w w') := by
    intro w' hb h
    obtain ⟨h1, h2, h3⟩ := Stf.of_none h
    rw [h1, h2, h3]
    exact ⟨none, 0, rfl, World.ownsRow_nil _ _ _ _, hb⟩
  have HN := Lib.hid hnil
  clear hnil
  go_enter Try.func10, Try.ntmps10
  go_wp2_with fail
  go_loopw [4, 5, 10] (fun u t i wr => ∃ (k : Nat) (T : Bool), k ≤ n ∧ i = .int .i64 k ∧ t = .bool T ∧ (∃ m : List UInt8, Hid (Stf.At l k T m) ∧ m.length ≤ k ∧ OwnB wr w.heap.size 5 u m) ∧ Below w.heap.size w wr) (fun _ _ i _ => n - (intOf i).toNat)
  case atStart => exact ⟨0, false, Nat.zero_le _, rfl, rfl, ⟨[], Stf.At.start l, Nat.zero_le _, World.ownsRow_nil _ _ _ _⟩, Below.refl _ _⟩
  case round =>
    obtain ⟨k, T, hk, rfl, rfl, ⟨m, HM, hml, ho⟩, hb⟩ := hrel
    by_cases hlt : k < n
    · obtain ⟨b, off, x, rfl, hb', hx, hcell⟩ := (hR.below hb).at' hlt
      have HX := Lib.hid hx
      have e1 := xor32 x
      have HE := Lib.hid e1
      unfold bv at hcell
      by_cases h7 : x = 0x7e
      · have t7 := (tests x 126 126 rfl (by omega) true (by rw [h7]; rfl)).1
        have hnone := Lib.hid (HM.out.flag (by rw [HX.out, h7]))
        obtain ⟨y, hy⟩ : ∃ y, y = x.toNat := ⟨_, rfl⟩
        rw [← hy] at hcell t7
        clear hx e1 h7 hy HE
        go_wp2_with fail
        go_ret2
        exact HN.out _ hb hnone.out
      · have t7 := (tests x 126 126 rfl (by omega) false (by simpa using h7)).1
        cases T with
        | true =>
          by_cases h5 : x = 0x5e
          · have t5 := tests x 94 94 rfl (by omega) true (by rw [h5]; rfl)
            obtain ⟨t5a, t5b⟩ := t5
            have HA := Lib.hid (HM.out.turn HX.out (.inl h5))
            obtain ⟨y, hy⟩ : ∃ y, y = x.toNat := ⟨_, rfl⟩
            rw [← hy] at hcell t7 t5a t5b HE
            clear hx e1 h7 h5 hy
            simp only [Bool.not_true] at t5b
            go_wp2_with (at_builtin; refine wpList_app _ rfl elemB (.tmp 33) (.tmp 36) rfl rfl (World.ownsRow.alloc ho _) rfl (Src.new' wr _ rfl [_] _ 1 1 rfl (by simp [Value.oneCell'])) (m.length + 1) rfl (by omega) (by have := hb.size; simp; omega) ?_; intro A1 c1 w2 hown2 hg2 hat2)
            go_roundw
            case rel => exact ⟨k + 1, false, by omega, by go_num, rfl, ⟨_, HA.out, by simp; omega, OwnB.of hown2 _ (by rw [bs_append, ← HE.out])⟩, below_app' (hb.alloc hb.size _) (World.ownsRow.alloc ho _) hg2 (Nat.le_refl _) (by have := hb.size; simp; omega)⟩
            case measure => simp [intOf]; omega
          · have t5 := tests x 94 94 rfl (by omega) false (by simpa using h5)
            obtain ⟨t5a, t5b⟩ := t5
            simp only [Bool.not_false] at t5b
            by_cases h4 : x = 0x5d
            · have t4 := tests x 93 93 rfl (by omega) true (by rw [h4]; rfl)
              obtain ⟨t4a, t4b⟩ := t4
              simp only [Bool.not_true] at t4b
              have HA := Lib.hid (HM.out.turn HX.out (.inr h4))
              obtain ⟨y, hy⟩ : ∃ y, y = x.toNat := ⟨_, rfl⟩
              rw [← hy] at hcell t7 t5a t5b t4a t4b HE
              clear hx e1 h7 h5 h4 hy
              go_wp2_with (at_builtin; refine wpList_app _ rfl elemB (.tmp 33) (.tmp 36) rfl rfl (World.ownsRow.alloc ho _) rfl (Src.new' wr _ rfl [_] _ 1 1 rfl (by simp [Value.oneCell'])) (m.length + 1) rfl (by omega) (by have := hb.size; simp; omega) ?_; intro A1 c1 w2 hown2 hg2 hat2)
              go_roundw
              case rel => exact ⟨k + 1, false, by omega, by go_num, rfl, ⟨_, HA.out, by simp; omega, OwnB.of hown2 _ (by rw [bs_append, ← HE.out])⟩, below_app' (hb.alloc hb.size _) (World.ownsRow.alloc ho _) hg2 (Nat.le_refl _) (by have := hb.size; simp; omega)⟩
              case measure => simp [intOf]; omega
            · have t4 := tests x 93 93 rfl (by omega) false (by simpa using h4)
              obtain ⟨t4a, t4b⟩ := t4
              simp only [Bool.not_false] at t4b
              have hnone := Lib.hid (HM.out.bad HX.out h5 h4)
              obtain ⟨y, hy⟩ : ∃ y, y = x.toNat := ⟨_, rfl⟩
              rw [← hy] at hcell t7 t5a t5b t4a t4b
              clear hx e1 h7 h5 h4 hy HE
              go_wp2_with fail
              go_ret2
              exact HN.out _ hb hnone.out
        | false =>
          by_cases h5 : x = 0x7d
          · have t5 := (tests x 125 125 rfl (by omega) true (by rw [h5]; rfl)).1
            have HA := Lib.hid (HM.out.esc (by rw [HX.out, h5]))
            obtain ⟨y, hy⟩ : ∃ y, y = x.toNat := ⟨_, rfl⟩
            rw [← hy] at hcell t7 t5
            clear hx e1 h7 h5 hy HE
            go_wp2_with fail
            go_roundw
            case rel => exact ⟨k + 1, true, by omega, by go_num, rfl, ⟨_, HA.out, by omega, ho⟩, hb⟩
            case measure => simp [intOf]; omega
          · have t5 := (tests x 125 125 rfl (by omega) false (by simpa using h5)).1
            have HA := Lib.hid (HM.out.plain HX.out h7 h5)
            obtain ⟨y, hy⟩ : ∃ y, y = x.toNat := ⟨_, rfl⟩
            have HY : Hid (([.int .u8 (y : Int)] : List Value) = bs [x]) := by show _ = _; rw [hy]; rfl
            rw [← hy] at hcell t7 t5
            clear hx e1 h7 h5 hy HE
            go_wp2_with (at_builtin; refine wpList_app _ rfl elemB (.tmp 14) (.tmp 16) rfl rfl (World.ownsRow.alloc ho _) rfl (Src.new' wr _ rfl [_] _ 1 1 rfl (by simp [Value.oneCell'])) (m.length + 1) rfl (by omega) (by have := hb.size; simp; omega) ?_; intro A1 c1 w2 hown2 hg2 hat2)
            go_roundw
            case rel => exact ⟨k + 1, false, by omega, by go_num, rfl, ⟨_, HA.out, by simp; omega, OwnB.of hown2 _ (by rw [bs_append, ← HY.out])⟩, below_app' (hb.alloc hb.size _) (World.ownsRow.alloc ho _) hg2 (Nat.le_refl _) (by have := hb.size; simp; omega)⟩
            case measure => simp [intOf]; omega
    · obtain rfl : n = k := by omega
      have hend := Stf.At.ended HM.out (by rw [hlen.out]; exact Nat.le_refl _)
      cases T with
      | true =>
        have hnone := Lib.hid (show Stf.unstuff false l = none by simpa using hend)
        clear hend
        go_wp2_with fail
        go_ret2
        exact HN.out _ hb hnone.out
      | false =>
        obtain ⟨h1, h2, h3⟩ := Stf.of_some (show Stf.unstuff false l = some m by simpa using hend)
        obtain ⟨A2, c2, rfl, _, _⟩ := ho.shape (by omega)
        have H1 := Lib.hid h1
        have H2 := Lib.hid h2
        have H3 := Lib.hid h3
        clear hend h1 h2 h3
        go_wp2_with fail
        go_ret2
        rw [H1.out, H2.out, H3.out]
        exact ⟨_, _, rfl, ho, hb⟩
end Go.Proofs.Ytiffbmnenbnglaa
