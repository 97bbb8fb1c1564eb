/-
  A LINE THAT IS NIL, AND THE HELPER awake.
-/
import Derived.Test.YtgiboekjjnmnnaaLineTake
namespace Go.Proofs.Ytgiboekjjnmnnaa
open Go.RowKit

set_option maxHeartbeats 1000000 in
theorem nil_put (w : World) (v : Value) : Calls Try.prog 9 #[.pointer none, v] w fun e w' => e = .returned (.int .i64 7) ∧ w = w' := by
  go_enter Try.func9, Try.ntmps9
  go_wp2
  go_ret
  exact ⟨rfl, rfl⟩
set_option maxHeartbeats 1000000 in
theorem nil_tick (w : World) : Calls Try.prog 12 #[.pointer none] w fun e w' => e = .returned (.int .i64 7) ∧ w = w' := by
  go_enter Try.func12, Try.ntmps12
  go_wp2
  go_ret
  exact ⟨rfl, rfl⟩
set_option maxHeartbeats 1000000 in
theorem nil_take (w : World) : Calls Try.prog 11 #[.pointer none] w fun e w' => e = .returned (.slice none 0 0) ∧ w = w' := by
  go_enter Try.func11, Try.ntmps11
  go_wp2
  go_ret
  exact ⟨rfl, rfl⟩
set_option maxHeartbeats 1000000 in
theorem nil_bytes (w : World) : Calls Try.prog 15 #[.pointer none] w fun e w' => e = .returned (.slice none 0 0) ∧ w = w' := by
  go_enter Try.func15, Try.ntmps15
  go_wp2
  go_ret
  exact ⟨rfl, rfl⟩
set_option maxHeartbeats 1000000 in
theorem nil_len (w : World) : Calls Try.prog 10 #[.pointer none] w fun e w' => e = .returned (.int .i64 0) ∧ w = w' := by
  go_enter Try.func10, Try.ntmps10
  go_wp2
  go_ret
  exact ⟨rfl, rfl⟩
set_option maxHeartbeats 1000000 in
theorem nil_drop (w : World) (x y : Value) : Calls Try.prog 18 #[.pointer none, x, y] w fun e w' => e = .returned (.int .i64 7) ∧ w = w' := by
  go_enter Try.func18, Try.ntmps18
  go_wp2
  go_ret
  exact ⟨rfl, rfl⟩
set_option maxHeartbeats 1000000 in
theorem nil_flip (w : World) (x y : Value) : Calls Try.prog 19 #[.pointer none, x, y] w fun e w' => e = .returned (.int .i64 7) ∧ w = w' := by
  go_enter Try.func19, Try.ntmps19
  go_wp2
  go_ret
  exact ⟨rfl, rfl⟩
set_option maxHeartbeats 1000000 in
set_option maxRecDepth 100000 in
theorem nil_insert (w : World) (x y : Value) : Calls Try.prog 17 #[.pointer none, x, y] w fun e w' => e = .returned (.int .i64 7) ∧ w = w' := by
  go_enter Try.func17, Try.ntmps17
  go_wp2
  go_ret
  exact ⟨rfl, rfl⟩

theorem conv_bytes {w w' : World} {B : Nat} {e : TypeId} {A : Option Addr} {n c : Nat} {l : List UInt8} (h : OwnB w B e (.slice A n c) l) (hl : l.length = n) (hn : n ≤ 281474976710656) (hb : Below w.heap.size w w') :
    (convert 28 9 (.slice A n c)).run Try.prog w' = .ok (.string ⟨l.toArray⟩) w' :=
  ((h.rd hl hn).below hb).string (P := Try.prog) 28 9 5 Try.underlying28 Try.underlying5 Try.underlying9

theorem Ln.under {w w' : World} {B g : Nat} {dl nw : Int} {n nd : Nat} {P D : Value} {p : List UInt8} {due : List Int} (h : Ln w B g dl nw n nd P D p due) (k : Kept (LnS g P D) w w') (hB : B ≤ w.heap.size) : Below B w w' := by
  refine k.below hB ?_
  rintro i hi (rfl | e | e)
  · have := h.low
    omega
  · have := (h.hp.lt i e).1
    omega
  · have := (h.hd.lt i e).1
    omega

set_option maxHeartbeats 2000000 in
/-- awake -/
theorem awake_any (w : World) : Calls Try.prog 8 #[] w fun e w' => e = .returned (.bool true) ∧ Below w.heap.size w w' := by
  have kc := fun (w : World) (C : Array Value) (n c : Nat) => Lib.run_convert_bytes_const (P := Try.prog) w 28 5 C n c Try.underlying28 Try.underlying5
  go_enter Try.func8, Try.ntmps8
  go_wp2_with (go_at_call 7; refine (new_ok _ 1 (by omega) (by omega)).mono ?_; rintro e w1 ⟨rfl, H1, hb1⟩)
  have H1a := H1.below ((Below.refl _ _).alloc (Nat.le_refl _) (.cells (bs [97, 98]).toArray 5 (2, 3)))
  have hb1a := hb1.alloc hb1.size (.cells (bs [97, 98]).toArray 5 (2, 3))
  refine (put_any _ H1a hb1a.size (by omega) (by omega) (by omega) (by omega) (rd_lit w1 [97, 98] 2 rfl (by omega) 5 (2, 3)) (by omega)).mono ?_
  rintro e w2 ⟨P2, D2, rfl, H2, k2, -, -⟩
  have hb2 := Lib.hid (hb1a.trans (H1a.under k2 hb1a.size))
  have H2' := Lib.hid (show Ln w2 w.heap.size w.heap.size 1 0 2 2 P2 D2 [97, 98] [1, 1] from H2)
  clear H2 k2 H1a hb1a H1 hb1
  go_wp2_with fail
  refine (take_any _ H2'.out (by omega) 0 (by omega) (by intro j x hj; omega) (by intro x hx; simp at hx; omega)).mono ?_
  rintro e w3 ⟨A3, c3, P3, D3, rfl, ho3, H3, k3, -, -⟩
  have hb3 := Lib.hid (hb2.out.trans (H2'.out.under (k3.mono fun _ _ e => .inl e) hb2.out.size))
  have H3' := Lib.hid (show Ln w3 w.heap.size w.heap.size 1 0 2 2 P3 D3 [97, 98] [1, 1] from H3)
  clear H3 k3 ho3
  go_wp2_with fail
  refine (tick_any _ H3'.out (by omega) (by omega)).mono ?_
  rintro e w4 ⟨rfl, H4, k4⟩
  have hb4 := Lib.hid (hb3.out.trans (H3'.out.under (k4.mono fun _ _ e => .inl e) hb3.out.size))
  have H4' := Lib.hid (show Ln w4 w.heap.size w.heap.size 1 1 2 2 P3 D3 [97, 98] [1, 1] from H4)
  clear H4 k4
  go_wp2_with fail
  refine (take_any _ H4'.out (by omega) 2 (by omega) (by intro j x hj hx; match j, hj, hx with | 0, _, hx => simp at hx; omega | 1, _, hx => simp at hx; omega) (by intro x hx; simp at hx)).mono ?_
  rintro e w5 ⟨A5, c5, P5, D5, rfl, ho5, H5, k5, -, -⟩
  have hb5 := Lib.hid (hb4.out.trans (H4'.out.under (k5.mono fun _ _ e => .inl e) hb4.out.size))
  have hc5 := conv_bytes (l := [97, 98]) ho5 rfl (by omega) (Below.refl _ _)
  clear H5 k5 ho5
  go_wp2
  go_ret
  exact ⟨rfl, hb5.out⟩
end Go.Proofs.Ytgiboekjjnmnnaa
