/-
  STATES: the walk of snap.Check.
-/
import Derived.Test.YtcnlgcmooegfkaaSnapFrom
namespace Go.Proofs.Ytcnlgcmooegfkaa
open Go.RowKit Mg Sn

theorem ck_eq (s : St) : ck s = if fromC s ≠ 0 then fromC s else if 65535 < s.sn.length then 6 else 0 := by
  by_cases h1 : 0 ≤ s.self ∧ s.self ≤ 63
  · have n1 : ¬ ¬ (0 ≤ s.self ∧ s.self ≤ 63) := fun h => h h1
    by_cases h2 : (nextOk s && holdB s && selfB s && marksB none s.sn) = false
    · have hf : fromC s = 2 := by rw [fromC, if_neg n1, if_pos h2]
      have hc : ck s = 2 := by rw [ck, if_neg n1, if_pos h2]
      rw [hf, hc]; rfl
    · by_cases h3 : 256 < gaps s.sn ∨ 256 < s.hd.length ∨ 1048576 < Sn.bytes s.hd
      · have hf : fromC s = 6 := by rw [fromC, if_neg n1, if_neg h2, if_pos h3]
        have hc : ck s = 6 := by rw [ck, if_neg n1, if_neg h2, if_pos (by omega)]
        rw [hf, hc]; rfl
      · have hf : fromC s = 0 := by rw [fromC, if_neg n1, if_neg h2, if_neg h3]
        rw [hf, ck, if_neg n1, if_neg h2]
        by_cases h5 : 65535 < s.sn.length
        · rw [if_pos (by omega), if_neg (by simp), if_pos h5]
        · rw [if_neg (by omega), if_neg (by simp), if_neg h5]
  · have hf : fromC s = 1 := by rw [fromC, if_pos h1]
    have hc : ck s = 1 := by rw [ck, if_pos h1]
    rw [hf, hc]; rfl
set_option maxRecDepth 100000 in
set_option maxHeartbeats 4000000 in
theorem check_st (s : St) (v : Sv) (B : Nat) (w : World) (hR : RdS w B v s) :
    Calls Try.prog 12 #[stv s v] w fun e w' => e = .returned (.int .i64 (ck s)) ∧ Below w.heap.size w w' := by
  obtain ⟨R, hRR⟩ : ∃ R, R = ck s := ⟨_, rfl⟩; rw [← hRR]; have HRR := Lib.hid hRR; have hb3 := hR.sn.big; have hl3 := hR.sn.len; obtain ⟨F, hF⟩ : ∃ F, F = fromC s := ⟨_, rfl⟩; have HF := Lib.hid hF; have HL := Lib.hid hl3; have HC : Hid (∀ w' : World, Below w.heap.size w w' → Calls Try.prog 28 #[.agg #[.int .i64 256, .int .i64 1048576, .int .i64 256], stv s v] w' fun e w'' => (∃ o, e = .returned (.tuple #[.pointer o, .int .i64 F])) ∧ Below w'.heap.size w' w'') := fun w' h => by
    rw [hF]; refine (from_any s v B w' (hR.below h)).mono ?_; rintro e w'' ⟨o, he, hb⟩; exact ⟨⟨o, he⟩, hb⟩
  clear hRR hR hF hl3; obtain ⟨self, ep, nx, ml, sn⟩ := s; obtain ⟨A1, n1, c1, A2, n2, c2, A3, n3, c3⟩ := v; unfold stv at HC ⊢; simp only at HC hb3 ⊢
  go_enter Try.func12, Try.ntmps12
  go_wp2_with fail
  have hB0 : Below w.heap.size w (w.alloc (.cells #[.int .i64 self, .int .i64 ep, .slice A1 n1 c1, .slice A2 n2 c2, .slice A3 n3 c3] 26)) := (Below.refl _ _).alloc (Nat.le_refl _) _; refine (HC.out _ hB0).mono ?_; rintro e9 w9 ⟨⟨o, rfl⟩, hb⟩; have HB := Lib.hid (hB0.trans (hb.mono (by simp))); have a4 := (hb.cell (p := ⟨w.heap.size, 4, none⟩) (by simp)).trans (World.cell?_alloc_mark w _ _ _ 4); simp at a4; clear hb hB0
  by_cases h0 : F = 0
  · by_cases h6 : 65535 < n3
    · have hd1 : decide ((65535 : Int) < (n3 : Int)) = true := by simp; omega
      have HRF : Hid (R = 6) := by
        show R = 6
        have := HL.out; rw [HRR.out, ck_eq, ← HF.out, h0, if_neg (by simp), if_pos (by show 65535 < sn.length; omega)]
      subst h0
      go_wp2_with fail
      go_ret
      exact ⟨by rw [HRF.out]; rfl, HB.out⟩
    · have hd1 : decide ((65535 : Int) < (n3 : Int)) = false := by simp; omega
      have HRF : Hid (R = 0) := by
        show R = 0
        have := HL.out; rw [HRR.out, ck_eq, ← HF.out, h0, if_neg (by simp), if_neg (by show ¬ 65535 < sn.length; omega)]
      subst h0
      go_wp2_with fail
      go_ret
      exact ⟨by rw [HRF.out]; rfl, HB.out⟩
  · have HRF : Hid (R = F) := by
      show R = F
      rw [HRR.out, ck_eq, ← HF.out, if_pos h0]
    have hb : (F != 0) = true := by simpa using h0
    go_wp2_with fail
    go_ret
    exact ⟨by rw [HRF.out]; rfl, HB.out⟩
end Go.Proofs.Ytcnlgcmooegfkaa
