/-
  MAY A MARK BE? two numbers held against two others; new sets: the walks.
-/
import Derived.Test.YtcnlgcmooegfkaaSnapMem
import Derived.Test.YtcnlgcmooegfkaaSnapMap
namespace Go.Proofs.Ytcnlgcmooegfkaa
open Go.RowKit Mg Sn

set_option maxRecDepth 100000 in
set_option maxHeartbeats 2000000 in
theorem sright_any (x : Mk) (A : Option Addr) (c B : Nat) (w : World) (hR : RdE EInt 1 w B A x.m.length c x.m) :
    Calls Try.prog 68 #[.agg #[.int .i64 x.o, .int .i64 x.e, .int .i64 x.u, .slice A x.m.length c]] w fun e w' => e = .returned (.bool (rightB x)) ∧ Below w.heap.size w w' := by
  obtain ⟨o, e, u, m⟩ := x; simp only at hR ⊢; obtain ⟨R, hRR⟩ : ∃ R, R = rightB ⟨o, e, u, m⟩ := ⟨_, rfl⟩; rw [← hRR]; unfold rightB at hRR; simp only at hRR; obtain ⟨n, hn⟩ : ∃ n, n = m.length := ⟨_, rfl⟩; rw [← hn] at hR hRR ⊢; have HN := Lib.hid hR; have HRR := Lib.hid hRR; have HL := Lib.hid hn; have hbig := hR.big; clear hR hRR hn
  go_enter Try.func68, Try.ntmps68
  go_wp2_with fail
  all_goals first
    | (go_ret; exact ⟨ret_bool (by rw [HRR.out]; symm; simp only [Bool.and_eq_false_iff, decide_eq_false_iff_not]; omega), (Below.refl _ _).alloc (Nat.le_refl _) _⟩)
    | skip
  have e1 : R = (moreB (u + 1) m && (decide (0 < u) || decide (0 < n))) := by
    have h1 : (decide (0 ≤ o ∧ o ≤ 63) && decide (1 ≤ e ∧ e ≤ 65535) && decide (0 ≤ u ∧ u ≤ 65535)) = true := by simp only [Bool.and_eq_true, decide_eq_true_eq]; omega
    rw [HRR.out, h1, Bool.true_and]
  have hu1 : 0 ≤ u := by omega
  have hu2 : u ≤ 65535 := by omega
  have E1 := Lib.hid e1; clear e1 HRR
  go_loop [3, 40] (fun la i => ∃ (k : Nat) (last : Int), i = .int .i64 k ∧ la = .int .i64 last ∧ k ≤ n ∧ Hid (R = (moreB last (m.drop k) && (decide (0 < u) || decide (0 < n))))) (fun _ i => n - (intOf i).toNat)
  case atStart => exact ⟨0, u + 1, rfl, rfl, Nat.zero_le _, by rw [List.drop_zero]; exact E1.out⟩
  case round =>
    obtain ⟨k, last, rfl, rfl, hk, hq⟩ := hrel; have HQ := Lib.hid hq; clear hq
    by_cases hlt : k < n
    · obtain ⟨b, off, z, cs, rfl, hB, hbl, hx, hcs, hlen, hcell⟩ := HN.out.at' hlt; unfold EInt at hcs; subst hcs; have c0 := hcell 0 _ rfl; rw [Nat.mul_one, Nat.add_zero] at c0; rw [moreB_drop hx] at HQ; have hkb : k < 281474976710656 := by omega
      clear hcell hlen hx
      go_wp2_with fail
      all_goals first
        | (have e1 : (decide (last < z) && decide (z ≤ 65535)) = true := by simp only [Bool.and_eq_true, decide_eq_true_eq]; omega
           go_round
           case rel => exact ⟨k + 1, z, by go_num, rfl, hlt, HQ.out.trans (by rw [e1, Bool.true_and])⟩
           case measure => simp [intOf]; omega)
        | (go_ret; exact ⟨ret_bool (by rw [HQ.out]; symm; simp only [Bool.and_eq_false_iff, decide_eq_false_iff_not]; omega), (Below.refl _ _).alloc (Nat.le_refl _) _⟩)
    · have hk2 : k = n := by omega
      rw [List.drop_of_length_le (by have := HN.out.len; omega), moreB, Bool.true_and] at HQ; clear hk2
      go_wp2_with fail
      all_goals
        go_ret
        exact ⟨ret_bool (by first | exact HQ.out.symm | (rw [HQ.out]; simp [*])), (Below.refl _ _).alloc (Nat.le_refl _) _⟩

/-! ### two numbers against two others -/
theorem isnan_any (n : Int) (w : World) : Calls Try.prog 89 #[.int .i64 n] w fun e w' => e = .returned (.bool false) ∧ w = w' := by
  go_enter Try.func89, Try.ntmps89
  go_wp2
  go_ret
  exact ⟨rfl, rfl⟩
/-- which is ahead: -1, 0, 1 -/
def cmp1 (a b : Int) : Int := if a < b then -1 else if b < a then 1 else 0
theorem cmp_any (a b : Int) (w : World) : Calls Try.prog 83 #[.int .i64 a, .int .i64 b] w fun e w' => e = .returned (.int .i64 (cmp1 a b)) ∧ w = w' := by
  unfold cmp1
  by_cases h1 : a < b
  · rw [if_pos h1]
    go_enter Try.func83, Try.ntmps83
    go_wp2_with (first | (go_at_call 89; refine (isnan_any _ _).mono ?_; rintro e w' ⟨rfl, rfl⟩))
    go_ret
    exact ⟨rfl, rfl⟩
  · rw [if_neg h1]
    by_cases h2 : b < a
    · rw [if_pos h2]
      go_enter Try.func83, Try.ntmps83
      go_wp2_with (first | (go_at_call 89; refine (isnan_any _ _).mono ?_; rintro e w' ⟨rfl, rfl⟩))
      go_ret
      exact ⟨rfl, rfl⟩
    · rw [if_neg h2]
      go_enter Try.func83, Try.ntmps83
      go_wp2_with (first | (go_at_call 89; refine (isnan_any _ _).mono ?_; rintro e w' ⟨rfl, rfl⟩))
      go_ret
      exact ⟨rfl, rfl⟩
/-- of two pairs -/
def cmp2 (a b c d : Int) : Int := if cmp1 a c ≠ 0 then cmp1 a c else cmp1 b d
set_option maxHeartbeats 1000000 in
theorem compare_any (a b c d : Int) (p q : Nat) (w : World) (h0 : w.cell? ⟨p, 0, none⟩ = some (.int .i64 a)) (h1 : w.cell? ⟨p, 1, none⟩ = some (.int .i64 b)) (h2 : w.cell? ⟨q, 0, none⟩ = some (.int .i64 c)) (h3 : w.cell? ⟨q, 1, none⟩ = some (.int .i64 d)) :
    Calls Try.prog 69 #[.slice (some ⟨p, 0, none⟩) 2 2, .slice (some ⟨q, 0, none⟩) 2 2] w fun e w' => e = .returned (.int .i64 (cmp2 a b c d)) ∧ w = w' := by
  go_enter Try.func69, Try.ntmps69
  go_wp2_with fail
  refine Go.wp_loop_rounds 3 ?_; rw [rounds_succ]
  go_wp2_with (first | (go_at_call 83; refine (cmp_any _ _ _).mono ?_; rintro e w' ⟨rfl, rfl⟩))
  · have h : (cmp1 a c != 0) = true := by assumption
    go_ret
    refine ⟨ret_int ?_, rfl⟩; rw [cmp2, if_pos (by simpa using h)]
  have h : cmp1 a c = 0 := by simpa using (by assumption : (cmp1 a c != 0) = false)
  have H := Lib.hid h; clear h; rw [rounds_succ]
  go_wp2_with (first | (go_at_call 83; refine (cmp_any _ _ _).mono ?_; rintro e w' ⟨rfl, rfl⟩))
  · go_ret
    refine ⟨ret_int ?_, rfl⟩; rw [cmp2, if_neg (by simp [H.out])]
  have h : cmp1 b d = 0 := by simpa using (by assumption : (cmp1 b d != 0) = false)
  have H2 := Lib.hid h; clear h; rw [rounds_succ]
  go_wp2_with fail
  go_ret
  refine ⟨ret_int ?_, rfl⟩; rw [cmp2, if_neg (by simp [H.out]), H2.out]
theorem cmp2_lt (a b c d : Int) : cmp2 a b c d < 0 ↔ (a < c ∨ (a = c ∧ b < d)) := by
  unfold cmp2 cmp1
  repeat' split
  all_goals omega

/-! ### new sets -/
theorem snew_any (g : Int) (h0 : 0 ≤ g) (h1 : g ≤ 256) (w : World) : Calls Try.prog 65 #[.int .i64 g] w fun e w' => ∃ m s, e = .returned (.tuple #[.pointer (some ⟨s, 0, none⟩), .int .i64 0]) ∧ w.heap.size ≤ m ∧ w.heap.size ≤ s ∧ w'.heap[m]? = some (.map #[] 0) ∧ w'.heap[s]? = some (.cells #[.int .i64 g, .map (some m)] 130 (0, 0)) ∧ Below w.heap.size w w' := by
  go_enter Try.func65, Try.ntmps65
  have hmm := @run_makeMap Try.prog
  go_wp2
  go_ret2
  refine ⟨w.heap.size, w.heap.size + 1, rfl, Nat.le_refl _, by omega, (Below.heap_alloc _ _ _ (by simp)).trans (heap_alloc_new w _), ?_, ((Below.refl _ _).alloc (Nat.le_refl _) _).alloc (by simp) _⟩; have := heap_alloc_new (w.alloc (.map #[] 0)) (.cells #[.int .i64 g, .map (some w.heap.size)] 130)
  rwa [World.size_alloc] at this
end Go.Proofs.Ytcnlgcmooegfkaa
