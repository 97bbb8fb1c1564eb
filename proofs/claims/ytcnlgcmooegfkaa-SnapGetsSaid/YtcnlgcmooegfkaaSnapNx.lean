/-
  MAY A STATE's COUNTERS BE? the walks.
-/
import Derived.Test.YtcnlgcmooegfkaaSnapMem
namespace Go.Proofs.Ytcnlgcmooegfkaa
open Go.RowKit Mg Sn

theorem sin_any (n m : Int) (w : World) : Calls Try.prog 64 #[.int .i64 n, .int .i64 m] w fun e w' => e = .returned (.bool (decide (0 ≤ n ∧ n ≤ m))) ∧ w = w' := by
  by_cases h1 : 0 ≤ n
  · by_cases h2 : n ≤ m
    · have e : decide (0 ≤ n ∧ n ≤ m) = true := by simp [h1, h2]
      rw [e]
      go_enter Try.func64, Try.ntmps64
      go_wp2
      go_ret
      exact ⟨rfl, rfl⟩
    · have e : decide (0 ≤ n ∧ n ≤ m) = false := by simp [h2]
      rw [e]
      go_enter Try.func64, Try.ntmps64
      go_wp2
      go_ret
      exact ⟨rfl, rfl⟩
  · have e : decide (0 ≤ n ∧ n ≤ m) = false := by simp [h1]
    rw [e]
    go_enter Try.func64, Try.ntmps64
    go_wp2
    go_ret
    exact ⟨rfl, rfl⟩

set_option maxRecDepth 100000 in
set_option maxHeartbeats 1000000 in
theorem snexts_any (s : St) (v : Sv) (B : Nat) (w : World) (hR : RdS w B v s) : Calls Try.prog 48 #[stv s v] w fun e w' => e = .returned (.bool (nextOk s)) ∧ Below w.heap.size w w' := by
  obtain ⟨self, ep, nx, hd, sn⟩ := s; obtain ⟨A1, n1, c1, A2, n2, c2, A3, n3, c3⟩ := v; have hN := hR.nx; simp only at hN; have HN := Lib.hid hN; unfold nextOk stv; simp only; obtain ⟨R, hRR⟩ : ∃ R, R = (nextB self ep (-1) nx && decide (0 ≤ ep ∧ ep ≤ 65535)) := ⟨_, rfl⟩; rw [← hRR]; have HRR := Lib.hid hRR; have hbig := hN.big; clear hRR hN hR
  go_enter Try.func48, Try.ntmps48
  go_wp2_with fail
  go_loopw [3, 9] (fun la i wr => ∃ (k : Nat) (last : Int), i = .int .i64 k ∧ la = .int .i64 last ∧ k ≤ n1 ∧ Hid (R = (nextB self ep last (nx.drop k) && decide (0 ≤ ep ∧ ep ≤ 65535)) ∧ Below (w.heap.size + 1) (w.alloc (.cells #[.int .i64 self, .int .i64 ep, .slice A1 n1 c1, .slice A2 n2 c2, .slice A3 n3 c3] 26)) wr)) (fun _ i _ => n1 - (intOf i).toNat)
  case atStart => exact ⟨0, -1, rfl, rfl, Nat.zero_le _, by rw [List.drop_zero]; exact HRR.out, Below.refl _ _⟩
  case round =>
    obtain ⟨k, last, rfl, rfl, hk, hq, hb⟩ := hrel; have HB := Lib.hid hb; have HQ := Lib.hid hq; have b0 := (hb.cell (p := ⟨w.heap.size, 0, none⟩) (by simp)).trans (World.cell?_alloc_mark w _ _ _ 0); have b1 := (hb.cell (p := ⟨w.heap.size, 1, none⟩) (by simp)).trans (World.cell?_alloc_mark w _ _ _ 1); simp at b0 b1; clear hb hq
    by_cases hlt : k < n1
    · have hbw : Below w.heap.size w wr := ((Below.refl _ _).alloc (Nat.le_refl _) _).trans (HB.out.mono (by omega)); obtain ⟨b, off, x, cs, rfl, hB, hbl, hx, hcs, hlen, hcell⟩ := (HN.out.below keeps_nx hbw).at' hlt; unfold ENx at hcs; subst hcs; have c0 := hcell 0 _ rfl; have c1' := hcell 1 _ rfl; rw [Nat.add_zero] at c0; rw [nextB_drop hx] at HQ; clear hcell hlen; have HBW := Lib.hid hbw; clear hbw; have hkb : k < 281474976710656 := by omega
      have hz : w.heap.size < wr.heap.size := by have := HB.out.size; simp at this; omega
      go_wp2_with (first | (go_at_call 64; refine (sin_any _ _ _).mono ?_; rintro e w' ⟨rfl, rfl⟩))
      all_goals (try simp only [beq_iff_eq, beq_eq_false_iff_ne, ne_eq] at *)
      all_goals first
        | (have e1 : (decide (last < x.d) && decide (0 ≤ x.d ∧ x.d ≤ 63) && decide (¬ x.d = self) && decide (1 ≤ x.c ∧ x.c ≤ 65535) && decide (¬ ep = 0)) = true := by simp only [Bool.and_eq_true, decide_eq_true_eq]; omega
           go_roundw
           case rel => exact ⟨k + 1, x.d, by go_num, rfl, hlt, by rw [HQ.out, e1, Bool.true_and], HB.out.alloc (by omega) _⟩
           case measure => simp [intOf]; omega)
        | (go_ret; exact ⟨ret_bool (by rw [HQ.out]; symm; simp only [Bool.and_eq_false_iff, decide_eq_false_iff_not]; omega), HBW.out.alloc HBW.out.size _⟩)
    · have hk2 : k = n1 := by omega
      have HBW := Lib.hid (((Below.refl w.heap.size w).alloc (Nat.le_refl _) _).trans (HB.out.mono (by omega))); rw [List.drop_of_length_le (by have := HN.out.len; omega), nextB, Bool.true_and] at HQ; clear hk2
      go_wp2_with (first | (go_at_call 64; refine (sin_any _ _ _).mono ?_; rintro e w' ⟨rfl, rfl⟩))
      go_ret
      exact ⟨ret_bool (by rw [HQ.out]; simp), HBW.out⟩
end Go.Proofs.Ytcnlgcmooegfkaa
