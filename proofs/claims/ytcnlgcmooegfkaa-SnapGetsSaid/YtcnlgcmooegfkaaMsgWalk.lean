/-
  THE SHORT WALKS OF MESSAGES: may an id, a message be; which is ahead; which are the same.
-/
import Derived.Test.YtcnlgcmooegfkaaMsgMath
import Derived.Test.YtcnlgcmooegfkaaKit
import Derived.Test.YtcnlgcmooegfkaaCells
import Derived.Handy
namespace Go.Proofs.Ytcnlgcmooegfkaa
open Go.RowKit Mg

/-- an id, a message, as values -/
def idv (i : Mid) : Value := .agg #[.int .i64 i.o, .int .i64 i.d, .int .i64 i.e, .int .i64 i.c]
def msgv (i : Mid) (D : Value) : Value := .agg #[.int .i64 i.o, .int .i64 i.d, .int .i64 i.e, .int .i64 i.c, D]

set_option maxHeartbeats 1000000 in
theorem in_yes (n a b : Int) (w : World) (h1 : a ≤ n) (h2 : n ≤ b) : Calls Try.prog 76 #[.int .i64 n, .int .i64 a, .int .i64 b] w fun e w' => e = .returned (.bool true) ∧ w = w' := by
  go_enter Try.func76, Try.ntmps76
  go_wp2
  go_ret
  exact ⟨rfl, rfl⟩
set_option maxHeartbeats 1000000 in
theorem in_no (n a b : Int) (w : World) (h : n < a ∨ b < n) : Calls Try.prog 76 #[.int .i64 n, .int .i64 a, .int .i64 b] w fun e w' => e = .returned (.bool false) ∧ w = w' := by
  by_cases h1 : a ≤ n
  · have h2 : ¬ n ≤ b := by omega
    clear h
    go_enter Try.func76, Try.ntmps76
    go_wp2
    go_ret
    exact ⟨rfl, rfl⟩
  · clear h
    go_enter Try.func76, Try.ntmps76
    go_wp2
    go_ret
    exact ⟨rfl, rfl⟩
set_option maxHeartbeats 1000000 in
theorem check_no0 (i : Mid) (w : World)  (hb : i.o < 0 ∨ 63 < i.o) : Calls Try.prog 60 #[idv i] w fun e w' => e = .returned (.int .i64 1) ∧ Below w.heap.size w w' := by
  obtain ⟨io, id, ie, ic⟩ := i; simp only at *; unfold idv
  go_enter Try.func60, Try.ntmps60
  go_wp2_with fail
  refine (in_no _ _ _ _ hb).mono ?_; rintro e w' ⟨rfl, rfl⟩
  go_wp2
  go_ret
  exact ⟨rfl, by repeat (first | exact Below.refl _ _ | refine Below.alloc ?_ (by first | exact Nat.le_refl _ | (simp; done) | (simp; omega)) _ | refine Below.setCell ?_ (by simp) _)⟩
set_option maxHeartbeats 1000000 in
theorem check_no1 (i : Mid) (w : World) (h0 : (0 ≤ i.o ∧ i.o ≤ 63)) (hb : i.d < 0 ∨ 63 < i.d) : Calls Try.prog 60 #[idv i] w fun e w' => e = .returned (.int .i64 1) ∧ Below w.heap.size w w' := by
  obtain ⟨io, id, ie, ic⟩ := i; simp only at *; unfold idv
  go_enter Try.func60, Try.ntmps60
  go_wp2_with fail
  refine (in_yes _ _ _ _ (by omega) (by omega)).mono ?_; rintro e w' ⟨rfl, rfl⟩
  go_wp2_with fail
  refine (in_no _ _ _ _ hb).mono ?_; rintro e w' ⟨rfl, rfl⟩
  go_wp2
  go_ret
  exact ⟨rfl, by repeat (first | exact Below.refl _ _ | refine Below.alloc ?_ (by first | exact Nat.le_refl _ | (simp; done) | (simp; omega)) _ | refine Below.setCell ?_ (by simp) _)⟩
set_option maxHeartbeats 1000000 in
theorem check_no2 (i : Mid) (w : World) (h0 : (0 ≤ i.o ∧ i.o ≤ 63)) (h1 : (0 ≤ i.d ∧ i.d ≤ 63)) (hb : i.e < 1 ∨ 65535 < i.e) : Calls Try.prog 60 #[idv i] w fun e w' => e = .returned (.int .i64 1) ∧ Below w.heap.size w w' := by
  obtain ⟨io, id, ie, ic⟩ := i; simp only at *; unfold idv
  go_enter Try.func60, Try.ntmps60
  go_wp2_with fail
  refine (in_yes _ _ _ _ (by omega) (by omega)).mono ?_; rintro e w' ⟨rfl, rfl⟩
  go_wp2_with fail
  refine (in_yes _ _ _ _ (by omega) (by omega)).mono ?_; rintro e w' ⟨rfl, rfl⟩
  go_wp2_with fail
  refine (in_no _ _ _ _ hb).mono ?_; rintro e w' ⟨rfl, rfl⟩
  go_wp2
  go_ret
  exact ⟨rfl, by repeat (first | exact Below.refl _ _ | refine Below.alloc ?_ (by first | exact Nat.le_refl _ | (simp; done) | (simp; omega)) _ | refine Below.setCell ?_ (by simp) _)⟩
set_option maxHeartbeats 1000000 in
theorem check_no3 (i : Mid) (w : World) (h0 : (0 ≤ i.o ∧ i.o ≤ 63)) (h1 : (0 ≤ i.d ∧ i.d ≤ 63)) (h2 : (1 ≤ i.e ∧ i.e ≤ 65535)) (hb : i.c < 1 ∨ 65535 < i.c) : Calls Try.prog 60 #[idv i] w fun e w' => e = .returned (.int .i64 1) ∧ Below w.heap.size w w' := by
  obtain ⟨io, id, ie, ic⟩ := i; simp only at *; unfold idv
  go_enter Try.func60, Try.ntmps60
  go_wp2_with fail
  refine (in_yes _ _ _ _ (by omega) (by omega)).mono ?_; rintro e w' ⟨rfl, rfl⟩
  go_wp2_with fail
  refine (in_yes _ _ _ _ (by omega) (by omega)).mono ?_; rintro e w' ⟨rfl, rfl⟩
  go_wp2_with fail
  refine (in_yes _ _ _ _ (by omega) (by omega)).mono ?_; rintro e w' ⟨rfl, rfl⟩
  go_wp2_with fail
  refine (in_no _ _ _ _ hb).mono ?_; rintro e w' ⟨rfl, rfl⟩
  go_wp2
  go_ret
  exact ⟨rfl, by repeat (first | exact Below.refl _ _ | refine Below.alloc ?_ (by first | exact Nat.le_refl _ | (simp; done) | (simp; omega)) _ | refine Below.setCell ?_ (by simp) _)⟩
set_option maxHeartbeats 1000000 in
theorem check_same (i : Mid) (w : World) (h0 : (0 ≤ i.o ∧ i.o ≤ 63)) (h1 : (0 ≤ i.d ∧ i.d ≤ 63)) (h2 : (1 ≤ i.e ∧ i.e ≤ 65535)) (h3 : (1 ≤ i.c ∧ i.c ≤ 65535)) (he : (i.o == i.d) = true) : Calls Try.prog 60 #[idv i] w fun e w' => e = .returned (.int .i64 2) ∧ Below w.heap.size w w' := by
  obtain ⟨io, id, ie, ic⟩ := i; simp only at *; unfold idv
  go_enter Try.func60, Try.ntmps60
  go_wp2_with fail
  refine (in_yes _ _ _ _ (by omega) (by omega)).mono ?_; rintro e w' ⟨rfl, rfl⟩
  go_wp2_with fail
  refine (in_yes _ _ _ _ (by omega) (by omega)).mono ?_; rintro e w' ⟨rfl, rfl⟩
  go_wp2_with fail
  refine (in_yes _ _ _ _ (by omega) (by omega)).mono ?_; rintro e w' ⟨rfl, rfl⟩
  go_wp2_with fail
  refine (in_yes _ _ _ _ (by omega) (by omega)).mono ?_; rintro e w' ⟨rfl, rfl⟩
  go_wp2
  go_ret
  exact ⟨rfl, by repeat (first | exact Below.refl _ _ | refine Below.alloc ?_ (by first | exact Nat.le_refl _ | (simp; done) | (simp; omega)) _ | refine Below.setCell ?_ (by simp) _)⟩
set_option maxHeartbeats 1000000 in
theorem check_ok (i : Mid) (w : World) (h0 : (0 ≤ i.o ∧ i.o ≤ 63)) (h1 : (0 ≤ i.d ∧ i.d ≤ 63)) (h2 : (1 ≤ i.e ∧ i.e ≤ 65535)) (h3 : (1 ≤ i.c ∧ i.c ≤ 65535)) (he : (i.o == i.d) = false) : Calls Try.prog 60 #[idv i] w fun e w' => e = .returned (.int .i64 0) ∧ Below w.heap.size w w' := by
  obtain ⟨io, id, ie, ic⟩ := i; simp only at *; unfold idv
  go_enter Try.func60, Try.ntmps60
  go_wp2_with fail
  refine (in_yes _ _ _ _ (by omega) (by omega)).mono ?_; rintro e w' ⟨rfl, rfl⟩
  go_wp2_with fail
  refine (in_yes _ _ _ _ (by omega) (by omega)).mono ?_; rintro e w' ⟨rfl, rfl⟩
  go_wp2_with fail
  refine (in_yes _ _ _ _ (by omega) (by omega)).mono ?_; rintro e w' ⟨rfl, rfl⟩
  go_wp2_with fail
  refine (in_yes _ _ _ _ (by omega) (by omega)).mono ?_; rintro e w' ⟨rfl, rfl⟩
  go_wp2
  go_ret
  exact ⟨rfl, by repeat (first | exact Below.refl _ _ | refine Below.alloc ?_ (by first | exact Nat.le_refl _ | (simp; done) | (simp; omega)) _ | refine Below.setCell ?_ (by simp) _)⟩
theorem check_any (i : Mid) (w : World) : Calls Try.prog 60 #[idv i] w fun e w' => e = .returned (.int .i64 (chk i)) ∧ Below w.heap.size w w' := by
  by_cases h0 : 0 ≤ i.o ∧ i.o ≤ 63
  · by_cases h1 : 0 ≤ i.d ∧ i.d ≤ 63
    · by_cases h2 : 1 ≤ i.e ∧ i.e ≤ 65535
      · by_cases h3 : 1 ≤ i.c ∧ i.c ≤ 65535
        · by_cases he : i.o = i.d
          · have e : chk i = 2 := by rw [chk, if_pos ⟨h0, h1, h2, h3⟩, if_pos he]
            rw [e]; exact check_same i w h0 h1 h2 h3 (by simpa using he)
          · have e : chk i = 0 := by rw [chk, if_pos ⟨h0, h1, h2, h3⟩, if_neg he]
            rw [e]; exact check_ok i w h0 h1 h2 h3 (by simpa using he)
        · have e : chk i = 1 := by rw [chk, if_neg (fun h => h3 h.2.2.2)]
          rw [e]; exact check_no3 i w h0 h1 h2 (by omega)
      · have e : chk i = 1 := by rw [chk, if_neg (fun h => h2 h.2.2.1)]
        rw [e]; exact check_no2 i w h0 h1 (by omega)
    · have e : chk i = 1 := by rw [chk, if_neg (fun h => h1 h.2.1)]
      rw [e]; exact check_no1 i w h0 (by omega)
  · have e : chk i = 1 := by rw [chk, if_neg (fun h => h0 h.1)]
    rw [e]; exact check_no0 i w (by omega)
set_option maxHeartbeats 1000000 in
theorem rcheck_lo0 (i : Mid) (w : World)  (hb : i.o < 0) : Calls Try.prog 77 #[idv i] w fun e w' => e = .returned (.int .i64 1) ∧ Below w.heap.size w w' := by
  obtain ⟨io, id, ie, ic⟩ := i; simp only at *; unfold idv
  go_enter Try.func77, Try.ntmps77
  go_wp2
  go_ret
  exact ⟨rfl, by repeat (first | exact Below.refl _ _ | refine Below.alloc ?_ (by first | exact Nat.le_refl _ | (simp; done) | (simp; omega)) _ | refine Below.setCell ?_ (by simp) _)⟩
set_option maxHeartbeats 1000000 in
theorem rcheck_hi0 (i : Mid) (w : World)  (hc : ¬ (i.o < 0)) (hb : 64 ≤ i.o) : Calls Try.prog 77 #[idv i] w fun e w' => e = .returned (.int .i64 1) ∧ Below w.heap.size w w' := by
  obtain ⟨io, id, ie, ic⟩ := i; simp only at *; unfold idv
  go_enter Try.func77, Try.ntmps77
  go_wp2
  go_ret
  exact ⟨rfl, by repeat (first | exact Below.refl _ _ | refine Below.alloc ?_ (by first | exact Nat.le_refl _ | (simp; done) | (simp; omega)) _ | refine Below.setCell ?_ (by simp) _)⟩
set_option maxHeartbeats 1000000 in
theorem rcheck_lo1 (i : Mid) (w : World) (h0 : (0 ≤ i.o ∧ i.o ≤ 63)) (hb : i.d < 0) : Calls Try.prog 77 #[idv i] w fun e w' => e = .returned (.int .i64 1) ∧ Below w.heap.size w w' := by
  have n0a : ¬ (i.o < 0) := by omega
  have n0b : ¬ (64 ≤ i.o) := by omega
  obtain ⟨io, id, ie, ic⟩ := i; simp only at *; unfold idv
  go_enter Try.func77, Try.ntmps77
  go_wp2
  go_ret
  exact ⟨rfl, by repeat (first | exact Below.refl _ _ | refine Below.alloc ?_ (by first | exact Nat.le_refl _ | (simp; done) | (simp; omega)) _ | refine Below.setCell ?_ (by simp) _)⟩
set_option maxHeartbeats 1000000 in
theorem rcheck_hi1 (i : Mid) (w : World) (h0 : (0 ≤ i.o ∧ i.o ≤ 63)) (hc : ¬ (i.d < 0)) (hb : 64 ≤ i.d) : Calls Try.prog 77 #[idv i] w fun e w' => e = .returned (.int .i64 1) ∧ Below w.heap.size w w' := by
  have n0a : ¬ (i.o < 0) := by omega
  have n0b : ¬ (64 ≤ i.o) := by omega
  obtain ⟨io, id, ie, ic⟩ := i; simp only at *; unfold idv
  go_enter Try.func77, Try.ntmps77
  go_wp2
  go_ret
  exact ⟨rfl, by repeat (first | exact Below.refl _ _ | refine Below.alloc ?_ (by first | exact Nat.le_refl _ | (simp; done) | (simp; omega)) _ | refine Below.setCell ?_ (by simp) _)⟩
set_option maxHeartbeats 1000000 in
theorem rcheck_lo2 (i : Mid) (w : World) (h0 : (0 ≤ i.o ∧ i.o ≤ 63)) (h1 : (0 ≤ i.d ∧ i.d ≤ 63)) (hb : i.e < 1) : Calls Try.prog 77 #[idv i] w fun e w' => e = .returned (.int .i64 1) ∧ Below w.heap.size w w' := by
  have n0a : ¬ (i.o < 0) := by omega
  have n0b : ¬ (64 ≤ i.o) := by omega
  have n1a : ¬ (i.d < 0) := by omega
  have n1b : ¬ (64 ≤ i.d) := by omega
  obtain ⟨io, id, ie, ic⟩ := i; simp only at *; unfold idv
  go_enter Try.func77, Try.ntmps77
  go_wp2
  go_ret
  exact ⟨rfl, by repeat (first | exact Below.refl _ _ | refine Below.alloc ?_ (by first | exact Nat.le_refl _ | (simp; done) | (simp; omega)) _ | refine Below.setCell ?_ (by simp) _)⟩
set_option maxHeartbeats 1000000 in
theorem rcheck_hi2 (i : Mid) (w : World) (h0 : (0 ≤ i.o ∧ i.o ≤ 63)) (h1 : (0 ≤ i.d ∧ i.d ≤ 63)) (hc : ¬ (i.e < 1)) (hb : 65535 < i.e) : Calls Try.prog 77 #[idv i] w fun e w' => e = .returned (.int .i64 1) ∧ Below w.heap.size w w' := by
  have n0a : ¬ (i.o < 0) := by omega
  have n0b : ¬ (64 ≤ i.o) := by omega
  have n1a : ¬ (i.d < 0) := by omega
  have n1b : ¬ (64 ≤ i.d) := by omega
  obtain ⟨io, id, ie, ic⟩ := i; simp only at *; unfold idv
  go_enter Try.func77, Try.ntmps77
  go_wp2
  go_ret
  exact ⟨rfl, by repeat (first | exact Below.refl _ _ | refine Below.alloc ?_ (by first | exact Nat.le_refl _ | (simp; done) | (simp; omega)) _ | refine Below.setCell ?_ (by simp) _)⟩
set_option maxHeartbeats 1000000 in
theorem rcheck_lo3 (i : Mid) (w : World) (h0 : (0 ≤ i.o ∧ i.o ≤ 63)) (h1 : (0 ≤ i.d ∧ i.d ≤ 63)) (h2 : (1 ≤ i.e ∧ i.e ≤ 65535)) (hb : i.c < 1) : Calls Try.prog 77 #[idv i] w fun e w' => e = .returned (.int .i64 1) ∧ Below w.heap.size w w' := by
  have n0a : ¬ (i.o < 0) := by omega
  have n0b : ¬ (64 ≤ i.o) := by omega
  have n1a : ¬ (i.d < 0) := by omega
  have n1b : ¬ (64 ≤ i.d) := by omega
  have n2a : ¬ (i.e < 1) := by omega
  have n2b : ¬ (65535 < i.e) := by omega
  obtain ⟨io, id, ie, ic⟩ := i; simp only at *; unfold idv
  go_enter Try.func77, Try.ntmps77
  go_wp2
  go_ret
  exact ⟨rfl, by repeat (first | exact Below.refl _ _ | refine Below.alloc ?_ (by first | exact Nat.le_refl _ | (simp; done) | (simp; omega)) _ | refine Below.setCell ?_ (by simp) _)⟩
set_option maxHeartbeats 1000000 in
theorem rcheck_hi3 (i : Mid) (w : World) (h0 : (0 ≤ i.o ∧ i.o ≤ 63)) (h1 : (0 ≤ i.d ∧ i.d ≤ 63)) (h2 : (1 ≤ i.e ∧ i.e ≤ 65535)) (hc : ¬ (i.c < 1)) (hb : 65535 < i.c) : Calls Try.prog 77 #[idv i] w fun e w' => e = .returned (.int .i64 1) ∧ Below w.heap.size w w' := by
  have n0a : ¬ (i.o < 0) := by omega
  have n0b : ¬ (64 ≤ i.o) := by omega
  have n1a : ¬ (i.d < 0) := by omega
  have n1b : ¬ (64 ≤ i.d) := by omega
  have n2a : ¬ (i.e < 1) := by omega
  have n2b : ¬ (65535 < i.e) := by omega
  obtain ⟨io, id, ie, ic⟩ := i; simp only at *; unfold idv
  go_enter Try.func77, Try.ntmps77
  go_wp2
  go_ret
  exact ⟨rfl, by repeat (first | exact Below.refl _ _ | refine Below.alloc ?_ (by first | exact Nat.le_refl _ | (simp; done) | (simp; omega)) _ | refine Below.setCell ?_ (by simp) _)⟩
set_option maxHeartbeats 1000000 in
theorem rcheck_same (i : Mid) (w : World) (h0 : (0 ≤ i.o ∧ i.o ≤ 63)) (h1 : (0 ≤ i.d ∧ i.d ≤ 63)) (h2 : (1 ≤ i.e ∧ i.e ≤ 65535)) (h3 : (1 ≤ i.c ∧ i.c ≤ 65535)) (he : (i.o == i.d) = true) : Calls Try.prog 77 #[idv i] w fun e w' => e = .returned (.int .i64 2) ∧ Below w.heap.size w w' := by
  have n0a : ¬ (i.o < 0) := by omega
  have n0b : ¬ (64 ≤ i.o) := by omega
  have n1a : ¬ (i.d < 0) := by omega
  have n1b : ¬ (64 ≤ i.d) := by omega
  have n2a : ¬ (i.e < 1) := by omega
  have n2b : ¬ (65535 < i.e) := by omega
  have n3a : ¬ (i.c < 1) := by omega
  have n3b : ¬ (65535 < i.c) := by omega
  obtain ⟨io, id, ie, ic⟩ := i; simp only at *; unfold idv
  go_enter Try.func77, Try.ntmps77
  go_wp2
  go_ret
  exact ⟨rfl, by repeat (first | exact Below.refl _ _ | refine Below.alloc ?_ (by first | exact Nat.le_refl _ | (simp; done) | (simp; omega)) _ | refine Below.setCell ?_ (by simp) _)⟩
set_option maxHeartbeats 1000000 in
theorem rcheck_ok (i : Mid) (w : World) (h0 : (0 ≤ i.o ∧ i.o ≤ 63)) (h1 : (0 ≤ i.d ∧ i.d ≤ 63)) (h2 : (1 ≤ i.e ∧ i.e ≤ 65535)) (h3 : (1 ≤ i.c ∧ i.c ≤ 65535)) (he : (i.o == i.d) = false) : Calls Try.prog 77 #[idv i] w fun e w' => e = .returned (.int .i64 0) ∧ Below w.heap.size w w' := by
  have n0a : ¬ (i.o < 0) := by omega
  have n0b : ¬ (64 ≤ i.o) := by omega
  have n1a : ¬ (i.d < 0) := by omega
  have n1b : ¬ (64 ≤ i.d) := by omega
  have n2a : ¬ (i.e < 1) := by omega
  have n2b : ¬ (65535 < i.e) := by omega
  have n3a : ¬ (i.c < 1) := by omega
  have n3b : ¬ (65535 < i.c) := by omega
  obtain ⟨io, id, ie, ic⟩ := i; simp only at *; unfold idv
  go_enter Try.func77, Try.ntmps77
  go_wp2
  go_ret
  exact ⟨rfl, by repeat (first | exact Below.refl _ _ | refine Below.alloc ?_ (by first | exact Nat.le_refl _ | (simp; done) | (simp; omega)) _ | refine Below.setCell ?_ (by simp) _)⟩
theorem rcheck_any (i : Mid) (w : World) : Calls Try.prog 77 #[idv i] w fun e w' => e = .returned (.int .i64 (chk i)) ∧ Below w.heap.size w w' := by
  by_cases h0 : 0 ≤ i.o ∧ i.o ≤ 63
  · by_cases h1 : 0 ≤ i.d ∧ i.d ≤ 63
    · by_cases h2 : 1 ≤ i.e ∧ i.e ≤ 65535
      · by_cases h3 : 1 ≤ i.c ∧ i.c ≤ 65535
        · by_cases he : i.o = i.d
          · have e : chk i = 2 := by rw [chk, if_pos ⟨h0, h1, h2, h3⟩, if_pos he]
            rw [e]; exact rcheck_same i w h0 h1 h2 h3 (by simpa using he)
          · have e : chk i = 0 := by rw [chk, if_pos ⟨h0, h1, h2, h3⟩, if_neg he]
            rw [e]; exact rcheck_ok i w h0 h1 h2 h3 (by simpa using he)
        · have e : chk i = 1 := by rw [chk, if_neg (fun h => h3 h.2.2.2)]
          rw [e]
          by_cases hl : i.c < 1
          · exact rcheck_lo3 i w h0 h1 h2 hl
          · exact rcheck_hi3 i w h0 h1 h2 hl (by omega)
      · have e : chk i = 1 := by rw [chk, if_neg (fun h => h2 h.2.2.1)]
        rw [e]
        by_cases hl : i.e < 1
        · exact rcheck_lo2 i w h0 h1 hl
        · exact rcheck_hi2 i w h0 h1 hl (by omega)
    · have e : chk i = 1 := by rw [chk, if_neg (fun h => h1 h.2.1)]
      rw [e]
      by_cases hl : i.d < 0
      · exact rcheck_lo1 i w h0 hl
      · exact rcheck_hi1 i w h0 hl (by omega)
  · have e : chk i = 1 := by rw [chk, if_neg (fun h => h0 h.1)]
    rw [e]
    by_cases hl : i.o < 0
    · exact rcheck_lo0 i w hl
    · exact rcheck_hi0 i w hl (by omega)
set_option maxHeartbeats 2000000 in
theorem checkm_any (i : Mid) (A : Option Addr) (n c : Nat) (w : World) : Calls Try.prog 39 #[msgv i (.slice A n c)] w fun e w' => e = .returned (.int .i64 (chkM i n)) ∧ Below w.heap.size w w' := by
  have hz : ∀ W, Calls Try.prog 60 #[idv i] W fun e w' => e = .returned (.int .i64 (chk i)) ∧ Below W.heap.size W w' := fun W => check_any i W
  obtain ⟨z, hz'⟩ : ∃ z, z = chk i := ⟨_, rfl⟩; rw [← hz'] at hz; have HC := Lib.hid hz; have e1 : chkM i n = if z = 0 then (if n = 0 then 2 else if 48 < n then 3 else 0) else z := by rw [chkM, ← hz']
  rw [e1]; clear hz e1 hz'; obtain ⟨io, id, ie, ic⟩ := i; simp only [idv] at HC; unfold msgv
  by_cases h0 : z = 0
  · subst h0; rw [if_pos rfl]
    by_cases h1 : n = 0
    · subst h1; rw [if_pos rfl]
      go_enter Try.func39, Try.ntmps39
      go_wp2_with fail
      refine (HC.out _).mono ?_; rintro e w1 ⟨rfl, hb⟩; have k0 : w1.cell? ⟨w.heap.size, 0, none⟩ = _ := (hb.cell (p := ⟨w.heap.size, 0, none⟩) (by simp)).trans (World.cell?_alloc_mark w _ _ _ 0); have k1 : w1.cell? ⟨w.heap.size, 1, none⟩ = _ := (hb.cell (p := ⟨w.heap.size, 1, none⟩) (by simp)).trans (World.cell?_alloc_mark w _ _ _ 1); have k2 : w1.cell? ⟨w.heap.size, 2, none⟩ = _ := (hb.cell (p := ⟨w.heap.size, 2, none⟩) (by simp)).trans (World.cell?_alloc_mark w _ _ _ 2); have k3 : w1.cell? ⟨w.heap.size, 3, none⟩ = _ := (hb.cell (p := ⟨w.heap.size, 3, none⟩) (by simp)).trans (World.cell?_alloc_mark w _ _ _ 3); have k4 : w1.cell? ⟨w.heap.size, 4, none⟩ = _ := (hb.cell (p := ⟨w.heap.size, 4, none⟩) (by simp)).trans (World.cell?_alloc_mark w _ _ _ 4); simp at k0 k1 k2 k3 k4
      go_wp2
      go_ret
      exact ⟨rfl, ((Below.refl _ _).alloc (Nat.le_refl _) _).trans (hb.mono (by simp))⟩
    · rw [if_neg h1]; have t1 : ((n : Int) == 0) = false := by simp; omega
      by_cases h2 : 48 < n
      · rw [if_pos h2]; have t2 : (48 : Int) < (n : Int) := by omega
        clear h1 h2
        go_enter Try.func39, Try.ntmps39
        go_wp2_with fail
        refine (HC.out _).mono ?_; rintro e w1 ⟨rfl, hb⟩; have k0 : w1.cell? ⟨w.heap.size, 0, none⟩ = _ := (hb.cell (p := ⟨w.heap.size, 0, none⟩) (by simp)).trans (World.cell?_alloc_mark w _ _ _ 0); have k1 : w1.cell? ⟨w.heap.size, 1, none⟩ = _ := (hb.cell (p := ⟨w.heap.size, 1, none⟩) (by simp)).trans (World.cell?_alloc_mark w _ _ _ 1); have k2 : w1.cell? ⟨w.heap.size, 2, none⟩ = _ := (hb.cell (p := ⟨w.heap.size, 2, none⟩) (by simp)).trans (World.cell?_alloc_mark w _ _ _ 2); have k3 : w1.cell? ⟨w.heap.size, 3, none⟩ = _ := (hb.cell (p := ⟨w.heap.size, 3, none⟩) (by simp)).trans (World.cell?_alloc_mark w _ _ _ 3); have k4 : w1.cell? ⟨w.heap.size, 4, none⟩ = _ := (hb.cell (p := ⟨w.heap.size, 4, none⟩) (by simp)).trans (World.cell?_alloc_mark w _ _ _ 4); simp at k0 k1 k2 k3 k4
        go_wp2
        go_ret
        exact ⟨rfl, ((Below.refl _ _).alloc (Nat.le_refl _) _).trans (hb.mono (by simp))⟩
      · rw [if_neg h2]; have t2 : ¬ (48 : Int) < (n : Int) := by omega
        clear h1 h2
        go_enter Try.func39, Try.ntmps39
        go_wp2_with fail
        refine (HC.out _).mono ?_; rintro e w1 ⟨rfl, hb⟩; have k0 : w1.cell? ⟨w.heap.size, 0, none⟩ = _ := (hb.cell (p := ⟨w.heap.size, 0, none⟩) (by simp)).trans (World.cell?_alloc_mark w _ _ _ 0); have k1 : w1.cell? ⟨w.heap.size, 1, none⟩ = _ := (hb.cell (p := ⟨w.heap.size, 1, none⟩) (by simp)).trans (World.cell?_alloc_mark w _ _ _ 1); have k2 : w1.cell? ⟨w.heap.size, 2, none⟩ = _ := (hb.cell (p := ⟨w.heap.size, 2, none⟩) (by simp)).trans (World.cell?_alloc_mark w _ _ _ 2); have k3 : w1.cell? ⟨w.heap.size, 3, none⟩ = _ := (hb.cell (p := ⟨w.heap.size, 3, none⟩) (by simp)).trans (World.cell?_alloc_mark w _ _ _ 3); have k4 : w1.cell? ⟨w.heap.size, 4, none⟩ = _ := (hb.cell (p := ⟨w.heap.size, 4, none⟩) (by simp)).trans (World.cell?_alloc_mark w _ _ _ 4); simp at k0 k1 k2 k3 k4
        go_wp2
        go_ret
        exact ⟨rfl, ((Below.refl _ _).alloc (Nat.le_refl _) _).trans (hb.mono (by simp))⟩
  · rw [if_neg h0]; have t0 : (z != 0) = true := by simpa using h0
    clear h0
    go_enter Try.func39, Try.ntmps39
    go_wp2_with fail
    refine (HC.out _).mono ?_; rintro e w1 ⟨rfl, hb⟩; have k0 : w1.cell? ⟨w.heap.size, 0, none⟩ = _ := (hb.cell (p := ⟨w.heap.size, 0, none⟩) (by simp)).trans (World.cell?_alloc_mark w _ _ _ 0); have k1 : w1.cell? ⟨w.heap.size, 1, none⟩ = _ := (hb.cell (p := ⟨w.heap.size, 1, none⟩) (by simp)).trans (World.cell?_alloc_mark w _ _ _ 1); have k2 : w1.cell? ⟨w.heap.size, 2, none⟩ = _ := (hb.cell (p := ⟨w.heap.size, 2, none⟩) (by simp)).trans (World.cell?_alloc_mark w _ _ _ 2); have k3 : w1.cell? ⟨w.heap.size, 3, none⟩ = _ := (hb.cell (p := ⟨w.heap.size, 3, none⟩) (by simp)).trans (World.cell?_alloc_mark w _ _ _ 3); have k4 : w1.cell? ⟨w.heap.size, 4, none⟩ = _ := (hb.cell (p := ⟨w.heap.size, 4, none⟩) (by simp)).trans (World.cell?_alloc_mark w _ _ _ 4); simp at k0 k1 k2 k3 k4
    go_wp2
    go_ret
    exact ⟨rfl, ((Below.refl _ _).alloc (Nat.le_refl _) _).trans (hb.mono (by simp))⟩
set_option maxHeartbeats 2000000 in
theorem rcheckm_any (i : Mid) (A : Option Addr) (n c : Nat) (w : World) : Calls Try.prog 61 #[msgv i (.slice A n c)] w fun e w' => e = .returned (.int .i64 (chkM i n)) ∧ Below w.heap.size w w' := by
  have hz : ∀ W, Calls Try.prog 77 #[idv i] W fun e w' => e = .returned (.int .i64 (chk i)) ∧ Below W.heap.size W w' := fun W => rcheck_any i W
  obtain ⟨z, hz'⟩ : ∃ z, z = chk i := ⟨_, rfl⟩; rw [← hz'] at hz; have HC := Lib.hid hz; have e1 : chkM i n = if z = 0 then (if n = 0 then 2 else if 48 < n then 3 else 0) else z := by rw [chkM, ← hz']
  rw [e1]; clear hz e1 hz'; obtain ⟨io, id, ie, ic⟩ := i; simp only [idv] at HC; unfold msgv
  by_cases h0 : z = 0
  · subst h0; rw [if_pos rfl]
    by_cases h1 : n = 0
    · subst h1; rw [if_pos rfl]
      go_enter Try.func61, Try.ntmps61
      go_wp2_with fail
      refine (HC.out _).mono ?_; rintro e w1 ⟨rfl, hb⟩; have k0 : w1.cell? ⟨w.heap.size, 0, none⟩ = _ := (hb.cell (p := ⟨w.heap.size, 0, none⟩) (by simp)).trans (World.cell?_alloc_mark w _ _ _ 0); have k1 : w1.cell? ⟨w.heap.size, 1, none⟩ = _ := (hb.cell (p := ⟨w.heap.size, 1, none⟩) (by simp)).trans (World.cell?_alloc_mark w _ _ _ 1); have k2 : w1.cell? ⟨w.heap.size, 2, none⟩ = _ := (hb.cell (p := ⟨w.heap.size, 2, none⟩) (by simp)).trans (World.cell?_alloc_mark w _ _ _ 2); have k3 : w1.cell? ⟨w.heap.size, 3, none⟩ = _ := (hb.cell (p := ⟨w.heap.size, 3, none⟩) (by simp)).trans (World.cell?_alloc_mark w _ _ _ 3); have k4 : w1.cell? ⟨w.heap.size, 4, none⟩ = _ := (hb.cell (p := ⟨w.heap.size, 4, none⟩) (by simp)).trans (World.cell?_alloc_mark w _ _ _ 4); simp at k0 k1 k2 k3 k4
      go_wp2
      go_ret
      exact ⟨rfl, ((Below.refl _ _).alloc (Nat.le_refl _) _).trans (hb.mono (by simp))⟩
    · rw [if_neg h1]; have t1 : ((n : Int) == 0) = false := by simp; omega
      by_cases h2 : 48 < n
      · rw [if_pos h2]; have t2 : (48 : Int) < (n : Int) := by omega
        clear h1 h2
        go_enter Try.func61, Try.ntmps61
        go_wp2_with fail
        refine (HC.out _).mono ?_; rintro e w1 ⟨rfl, hb⟩; have k0 : w1.cell? ⟨w.heap.size, 0, none⟩ = _ := (hb.cell (p := ⟨w.heap.size, 0, none⟩) (by simp)).trans (World.cell?_alloc_mark w _ _ _ 0); have k1 : w1.cell? ⟨w.heap.size, 1, none⟩ = _ := (hb.cell (p := ⟨w.heap.size, 1, none⟩) (by simp)).trans (World.cell?_alloc_mark w _ _ _ 1); have k2 : w1.cell? ⟨w.heap.size, 2, none⟩ = _ := (hb.cell (p := ⟨w.heap.size, 2, none⟩) (by simp)).trans (World.cell?_alloc_mark w _ _ _ 2); have k3 : w1.cell? ⟨w.heap.size, 3, none⟩ = _ := (hb.cell (p := ⟨w.heap.size, 3, none⟩) (by simp)).trans (World.cell?_alloc_mark w _ _ _ 3); have k4 : w1.cell? ⟨w.heap.size, 4, none⟩ = _ := (hb.cell (p := ⟨w.heap.size, 4, none⟩) (by simp)).trans (World.cell?_alloc_mark w _ _ _ 4); simp at k0 k1 k2 k3 k4
        go_wp2
        go_ret
        exact ⟨rfl, ((Below.refl _ _).alloc (Nat.le_refl _) _).trans (hb.mono (by simp))⟩
      · rw [if_neg h2]; have t2 : ¬ (48 : Int) < (n : Int) := by omega
        clear h1 h2
        go_enter Try.func61, Try.ntmps61
        go_wp2_with fail
        refine (HC.out _).mono ?_; rintro e w1 ⟨rfl, hb⟩; have k0 : w1.cell? ⟨w.heap.size, 0, none⟩ = _ := (hb.cell (p := ⟨w.heap.size, 0, none⟩) (by simp)).trans (World.cell?_alloc_mark w _ _ _ 0); have k1 : w1.cell? ⟨w.heap.size, 1, none⟩ = _ := (hb.cell (p := ⟨w.heap.size, 1, none⟩) (by simp)).trans (World.cell?_alloc_mark w _ _ _ 1); have k2 : w1.cell? ⟨w.heap.size, 2, none⟩ = _ := (hb.cell (p := ⟨w.heap.size, 2, none⟩) (by simp)).trans (World.cell?_alloc_mark w _ _ _ 2); have k3 : w1.cell? ⟨w.heap.size, 3, none⟩ = _ := (hb.cell (p := ⟨w.heap.size, 3, none⟩) (by simp)).trans (World.cell?_alloc_mark w _ _ _ 3); have k4 : w1.cell? ⟨w.heap.size, 4, none⟩ = _ := (hb.cell (p := ⟨w.heap.size, 4, none⟩) (by simp)).trans (World.cell?_alloc_mark w _ _ _ 4); simp at k0 k1 k2 k3 k4
        go_wp2
        go_ret
        exact ⟨rfl, ((Below.refl _ _).alloc (Nat.le_refl _) _).trans (hb.mono (by simp))⟩
  · rw [if_neg h0]; have t0 : (z != 0) = true := by simpa using h0
    clear h0
    go_enter Try.func61, Try.ntmps61
    go_wp2_with fail
    refine (HC.out _).mono ?_; rintro e w1 ⟨rfl, hb⟩; have k0 : w1.cell? ⟨w.heap.size, 0, none⟩ = _ := (hb.cell (p := ⟨w.heap.size, 0, none⟩) (by simp)).trans (World.cell?_alloc_mark w _ _ _ 0); have k1 : w1.cell? ⟨w.heap.size, 1, none⟩ = _ := (hb.cell (p := ⟨w.heap.size, 1, none⟩) (by simp)).trans (World.cell?_alloc_mark w _ _ _ 1); have k2 : w1.cell? ⟨w.heap.size, 2, none⟩ = _ := (hb.cell (p := ⟨w.heap.size, 2, none⟩) (by simp)).trans (World.cell?_alloc_mark w _ _ _ 2); have k3 : w1.cell? ⟨w.heap.size, 3, none⟩ = _ := (hb.cell (p := ⟨w.heap.size, 3, none⟩) (by simp)).trans (World.cell?_alloc_mark w _ _ _ 3); have k4 : w1.cell? ⟨w.heap.size, 4, none⟩ = _ := (hb.cell (p := ⟨w.heap.size, 4, none⟩) (by simp)).trans (World.cell?_alloc_mark w _ _ _ 4); simp at k0 k1 k2 k3 k4
    go_wp2_with fail
    refine (HC.out _).mono ?_; rintro e w2 ⟨rfl, hb2⟩
    go_wp2
    go_ret
    exact ⟨rfl, (((Below.refl _ _).alloc (Nat.le_refl _) _).trans (hb.mono (by simp))).trans (hb2.mono (by have := hb.size; simp at this; omega))⟩
end Go.Proofs.Ytcnlgcmooegfkaa
