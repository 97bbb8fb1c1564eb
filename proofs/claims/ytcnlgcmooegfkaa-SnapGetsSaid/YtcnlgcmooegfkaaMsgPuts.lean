/-
  A MESSAGE's BYTES: the document's ids and messages, the program's messages.
-/
import Derived.Test.YtcnlgcmooegfkaaMsgOrder
namespace Go.Proofs.Ytcnlgcmooegfkaa
open Go.RowKit Mg

/-- bytes that a literal has laid are the call's own -/
theorem own_lit (w : World) {B : Nat} (l : List UInt8) (n : Nat) (hn : l.length = n) (hb : n ≤ 281474976710656) (hB : B ≤ w.heap.size) (e : TypeId) : OwnB (w.alloc (.cells (bs l).toArray e)) B e (.slice (some ⟨w.heap.size, 0, none⟩) n n) l := by
  subst hn; refine ⟨by simp [bs], .inr ⟨w.heap.size, l.length, _, rfl, hB, heap_alloc_new w _, Nat.le_refl _, by unfold maxLen; omega, by simp [bs], by simp [bs]; exact List.take_of_length_le (by simp)⟩⟩
theorem OwnB.row {w : World} {B : Nat} {e : TypeId} {A : Option Addr} {n c : Nat} {l : List UInt8} (h : OwnB w B e (.slice A n c) l) (hl : l.length = n) : w.ownsRow B e 1 (.slice A n c) n (bs l) := by
  subst hl; exact h

set_option maxHeartbeats 2000000 in
theorem rputid_bad (i : Mid) (w : World) (h : chk i ≠ 0) : Calls Try.prog 62 #[idv i] w fun e w' => e = .returned (.tuple #[.slice none 0 0, .int .i64 (chk i)]) ∧ Below w.heap.size w w' := by
  have HC := Lib.hid (fun W => rcheck_any i W); obtain ⟨z, hz⟩ : ∃ z, z = chk i := ⟨_, rfl⟩; rw [← hz] at HC h ⊢; have t0 : (z != 0) = true := by simpa using h
  clear hz h; obtain ⟨io, id, ie, ic⟩ := i; unfold idv at HC ⊢
  go_enter Try.func62, Try.ntmps62
  go_wp2_with fail
  refine (HC.out _).mono ?_; rintro e w1 ⟨rfl, hb⟩; have hb1 := ((Below.refl w.heap.size w).alloc (Nat.le_refl _) (.cells #[.int .i64 io, .int .i64 id, .int .i64 ie, .int .i64 ic] 52)).trans (hb.mono (by simp)); have k0 : w1.cell? ⟨w.heap.size, 0, none⟩ = some (.int .i64 io) := (hb.cell (p := ⟨w.heap.size, 0, none⟩) (by simp)).trans (World.cell?_alloc_mark w _ _ _ 0); have k1 : w1.cell? ⟨w.heap.size, 1, none⟩ = some (.int .i64 id) := (hb.cell (p := ⟨w.heap.size, 1, none⟩) (by simp)).trans (World.cell?_alloc_mark w _ _ _ 1); have k2 : w1.cell? ⟨w.heap.size, 2, none⟩ = some (.int .i64 ie) := (hb.cell (p := ⟨w.heap.size, 2, none⟩) (by simp)).trans (World.cell?_alloc_mark w _ _ _ 2); have k3 : w1.cell? ⟨w.heap.size, 3, none⟩ = some (.int .i64 ic) := (hb.cell (p := ⟨w.heap.size, 3, none⟩) (by simp)).trans (World.cell?_alloc_mark w _ _ _ 3); have HB := Lib.hid hb1; clear hb hb1
  go_wp2_with fail
  refine (HC.out _).mono ?_; rintro e w2 ⟨rfl, hb2⟩
  go_wp2
  go_ret2
  exact ⟨rfl, HB.out.trans (hb2.mono HB.out.size)⟩

set_option maxHeartbeats 4000000 in
theorem rputid_ok (o d e c : Nat) (w : World) (ho : o ≤ 63) (hd : d ≤ 63) (he1 : 1 ≤ e) (he : e ≤ 65535) (hc1 : 1 ≤ c) (hc : c ≤ 65535) (h : chk ⟨o, d, e, c⟩ = 0) :
    Calls Try.prog 62 #[idv ⟨o, d, e, c⟩] w fun en w' => ∃ A k, en = .returned (.tuple #[.slice A 6 k, .int .i64 0]) ∧ OwnB w' w.heap.size 5 (.slice A 6 k) (idB ⟨o, d, e, c⟩) ∧ Below w.heap.size w w' := by
  have hck := fun W => rcheck_any ⟨o, d, e, c⟩ W
  rw [h] at hck; unfold idv at hck ⊢; simp only at hck ⊢; have HC := Lib.hid hck; have b0 : (0 : Int) ≤ (o : Int) := by omega
  have b1 : (o : Int) ≤ 63 := by omega
  have b2 : (0 : Int) ≤ (d : Int) := by omega
  have b3 : (d : Int) ≤ 63 := by omega
  have b4 : (0 : Int) ≤ (e : Int) := by omega
  have b5 : (e : Int) ≤ 65535 := by omega
  have b6 : (0 : Int) ≤ (c : Int) := by omega
  have b7 : (c : Int) ≤ 65535 := by omega
  clear hck h
  go_enter Try.func62, Try.ntmps62
  go_wp2_with fail
  refine (HC.out _).mono ?_; rintro en w1 ⟨rfl, hb⟩; have k0 : w1.cell? ⟨w.heap.size, 0, none⟩ = some (.int .i64 o) := (hb.cell (p := ⟨w.heap.size, 0, none⟩) (by simp)).trans (World.cell?_alloc_mark w _ _ _ 0); have k1 : w1.cell? ⟨w.heap.size, 1, none⟩ = some (.int .i64 d) := (hb.cell (p := ⟨w.heap.size, 1, none⟩) (by simp)).trans (World.cell?_alloc_mark w _ _ _ 1); have k2 : w1.cell? ⟨w.heap.size, 2, none⟩ = some (.int .i64 e) := (hb.cell (p := ⟨w.heap.size, 2, none⟩) (by simp)).trans (World.cell?_alloc_mark w _ _ _ 2); have k3 : w1.cell? ⟨w.heap.size, 3, none⟩ = some (.int .i64 c) := (hb.cell (p := ⟨w.heap.size, 3, none⟩) (by simp)).trans (World.cell?_alloc_mark w _ _ _ 3); have HB := Lib.hid (((Below.refl w.heap.size w).alloc (Nat.le_refl _) _).trans (hb.mono (by simp))); clear hb
  go_wp2
  go_ret2
  refine ⟨_, 6, rfl, ?_, HB.out.alloc HB.out.size _⟩; have e1 : (bs (idB ⟨o, d, e, c⟩)).toArray = #[.int .u8 (o : Int), .int .u8 (d : Int), .int .u8 ((e : Int) / 256), .int .u8 ((e : Int) % 256), .int .u8 ((c : Int) / 256), .int .u8 ((c : Int) % 256)] := by
    simp [idB, be2, bs, bv]; omega
  have := own_lit w1 (idB ⟨o, d, e, c⟩) 6 (idB_len _) (by omega) HB.out.size 5
  rwa [e1] at this

theorem rputid_any (i : Mid) (w : World) : Calls Try.prog 62 #[idv i] w fun en w' => ∃ A n k, en = .returned (.tuple #[.slice A n k, .int .i64 (chk i)]) ∧ n = (pb i).length ∧ OwnB w' w.heap.size 5 (.slice A n k) (pb i) ∧ Below w.heap.size w w' := by
  by_cases h : chk i = 0
  · have hin := in_of_chk h; have hpb : pb i = idB i := if_pos h; obtain ⟨o, d, e, c⟩ := i; obtain ⟨⟨a0, a1⟩, ⟨a2, a3⟩, ⟨a4, a5⟩, a6, a7⟩ := hin; simp only at a0 a1 a2 a3 a4 a5 a6 a7; obtain ⟨x0, rfl⟩ := Int.eq_ofNat_of_zero_le a0; obtain ⟨x1, rfl⟩ := Int.eq_ofNat_of_zero_le a2; obtain ⟨x2, rfl⟩ := Int.eq_ofNat_of_zero_le (show 0 ≤ e by omega); obtain ⟨x3, rfl⟩ := Int.eq_ofNat_of_zero_le (show 0 ≤ c by omega); refine (rputid_ok x0 x1 x2 x3 w (by omega) (by omega) (by omega) (by omega) (by omega) (by omega) h).mono ?_; rintro en w' ⟨A, k, rfl, ho, hb⟩; rw [hpb, h]; exact ⟨A, 6, k, rfl, (idB_len _).symm, ho, hb⟩
  · refine (rputid_bad i w h).mono ?_; rintro en w' ⟨rfl, hb⟩; have hpb : pb i = [] := if_neg h; rw [hpb]; exact ⟨none, 0, 0, rfl, rfl, World.ownsRow_nil _ _ _ _, hb⟩

/-- a message's bytes, none where it may not be -/
def mb (i : Mid) (l : List UInt8) : List UInt8 := if chkM i l.length = 0 then idB i ++ l else []
theorem chk_of_chkM {i : Mid} {n : Nat} (h : chkM i n = 0) : chk i = 0 ∧ 1 ≤ n ∧ n ≤ 48 := by
  unfold chkM at h
  split at h
  · rename_i h0
    refine ⟨h0, ?_⟩
    split at h
    · cases h
    · split at h
      · cases h
      · omega
  · exact absurd h ‹_›

set_option maxHeartbeats 2000000 in
theorem put_bad (i : Mid) (A : Option Addr) (n c : Nat) (w : World) (h : chkM i n ≠ 0) : Calls Try.prog 22 #[msgv i (.slice A n c)] w fun e w' => e = .returned (.tuple #[.slice none 0 0, .int .i64 (chkM i n)]) ∧ Below w.heap.size w w' := by
  have HC := Lib.hid (fun W => checkm_any i A n c W); obtain ⟨z, hz⟩ : ∃ z, z = chkM i n := ⟨_, rfl⟩; rw [← hz] at HC h ⊢; have t0 : (z != 0) = true := by simpa using h
  clear hz h; obtain ⟨io, id, ie, ic⟩ := i; unfold msgv at HC ⊢
  go_enter Try.func22, Try.ntmps22
  go_wp2_with fail
  refine (HC.out _).mono ?_; rintro e w1 ⟨rfl, hb⟩
  go_wp2
  go_ret2
  exact ⟨rfl, ((Below.refl _ _).alloc (Nat.le_refl _) _).trans (hb.mono (by simp))⟩

set_option maxHeartbeats 4000000 in
theorem put_ok (i : Mid) (A : Option Addr) (n c : Nat) (l : List UInt8) (w : World) (hR : Rd w A n c l) (h : chkM i n = 0) :
    Calls Try.prog 22 #[msgv i (.slice A n c)] w fun en w' => ∃ A' k, en = .returned (.tuple #[.slice A' (6 + n) k, .int .i64 0]) ∧ OwnB w' w.heap.size 5 (.slice A' (6 + n) k) (idB i ++ l) ∧ Below w.heap.size w w' := by
  have hck := fun W => checkm_any i A n c W
  rw [h] at hck; have hpb : pb i = idB i := if_pos (chk_of_chkM h).1; have hpt := fun W => putid_any i W
  rw [(chk_of_chkM h).1, hpb] at hpt; have hn := (chk_of_chkM h).2.2; have HC := Lib.hid hck; have HP := Lib.hid hpt; have HR := Lib.hid hR; have HIL := Lib.hid (idB_len i); obtain ⟨q, hq⟩ : ∃ q, q = idB i := ⟨_, rfl⟩; rw [← hq] at HP HIL ⊢; clear hck hpt hpb hR h hq; obtain ⟨io, id, ie, ic⟩ := i; unfold msgv at HC ⊢; unfold idv at HP
  go_enter Try.func22, Try.ntmps22
  go_wp2_with fail
  refine (HC.out _).mono ?_; rintro en w1 ⟨rfl, hb⟩; have k0 : w1.cell? ⟨w.heap.size, 0, none⟩ = some (.int .i64 io) := (hb.cell (p := ⟨w.heap.size, 0, none⟩) (by simp)).trans (World.cell?_alloc_mark w _ _ _ 0); have k1 : w1.cell? ⟨w.heap.size, 1, none⟩ = some (.int .i64 id) := (hb.cell (p := ⟨w.heap.size, 1, none⟩) (by simp)).trans (World.cell?_alloc_mark w _ _ _ 1); have k2 : w1.cell? ⟨w.heap.size, 2, none⟩ = some (.int .i64 ie) := (hb.cell (p := ⟨w.heap.size, 2, none⟩) (by simp)).trans (World.cell?_alloc_mark w _ _ _ 2); have k3 : w1.cell? ⟨w.heap.size, 3, none⟩ = some (.int .i64 ic) := (hb.cell (p := ⟨w.heap.size, 3, none⟩) (by simp)).trans (World.cell?_alloc_mark w _ _ _ 3); have k4 : w1.cell? ⟨w.heap.size, 4, none⟩ = some (.slice A n c) := (hb.cell (p := ⟨w.heap.size, 4, none⟩) (by simp)).trans (World.cell?_alloc_mark w _ _ _ 4); have hlt : w.heap.size < w1.heap.size := by have := hb.size; simp at this; omega
  have HB := Lib.hid (((Below.refl w.heap.size w).alloc (Nat.le_refl _) _).trans (hb.mono (by simp))); clear hb
  go_wp2_with fail
  refine (HP.out _).mono ?_; rintro en w2 ⟨A2, m2, c2, rfl, hm2, ho, hb2⟩; have k4' := (hb2.cell (p := ⟨w.heap.size, 4, none⟩) hlt).trans k4; have hm6 : m2 = 6 := by rw [hm2]; exact HIL.out
  subst hm6; have HO := Lib.hid (row_base6 ho HB.out.size); have HB2 := Lib.hid (HB.out.trans (hb2.mono HB.out.size)); clear hb2 k0 k1 k2 k3 k4 ho hm2
  go_wp2_with ((with_reducible show wpList _ _ _ (⟨some 21, _, _, _, _, _⟩ :: _) _ _); refine wpList_app _ rfl elemB (.tmp 18) (.tmp 20) rfl rfl (OwnB.row HO.out HIL.out) rfl ((HR.out.below HB2.out).src) (6 + n) rfl (by omega) HB2.out.size ?_; intro A3 c3 w3 hown3 hg3 hat3)
  have HB3 := below_app' HB2.out (OwnB.row HO.out HIL.out) hg3 (Nat.le_refl _) HB2.out.size
  go_wp2
  go_ret2
  exact ⟨A3, c3, rfl, OwnB.of hown3 _ (by simp [bs]), HB3⟩

theorem put_any (i : Mid) (A : Option Addr) (n c : Nat) (l : List UInt8) (w : World) (hR : Rd w A n c l) :
    Calls Try.prog 22 #[msgv i (.slice A n c)] w fun en w' => ∃ A' m k, en = .returned (.tuple #[.slice A' m k, .int .i64 (chkM i n)]) ∧ m = (mb i l).length ∧ OwnB w' w.heap.size 5 (.slice A' m k) (mb i l) ∧ Below w.heap.size w w' := by
  by_cases h : chkM i n = 0
  · have e : mb i l = idB i ++ l := by unfold mb; rw [hR.len, if_pos h]
    refine (put_ok i A n c l w hR h).mono ?_; rintro en w' ⟨A', k, rfl, ho, hb⟩; rw [e, h]; exact ⟨A', 6 + n, k, rfl, by rw [List.length_append, idB_len, hR.len], ho, hb⟩
  · have e : mb i l = [] := by unfold mb; rw [hR.len, if_neg h]
    refine (put_bad i A n c w h).mono ?_; rintro en w' ⟨rfl, hb⟩; rw [e]; exact ⟨none, 0, 0, rfl, rfl, World.ownsRow_nil _ _ _ _, hb⟩

set_option maxHeartbeats 2000000 in
theorem rput_bad (i : Mid) (A : Option Addr) (n c : Nat) (w : World) (h : chkM i n ≠ 0) : Calls Try.prog 44 #[msgv i (.slice A n c)] w fun e w' => e = .returned (.tuple #[.slice none 0 0, .int .i64 (chkM i n)]) ∧ Below w.heap.size w w' := by
  have HC := Lib.hid (fun W => rcheckm_any i A n c W); obtain ⟨z, hz⟩ : ∃ z, z = chkM i n := ⟨_, rfl⟩; rw [← hz] at HC h ⊢; have t0 : (z != 0) = true := by simpa using h
  clear hz h; obtain ⟨io, id, ie, ic⟩ := i; unfold msgv at HC ⊢
  go_enter Try.func44, Try.ntmps44
  go_wp2_with fail
  refine (HC.out _).mono ?_; rintro e w1 ⟨rfl, hb⟩; have k0 : w1.cell? ⟨w.heap.size, 0, none⟩ = some (.int .i64 io) := (hb.cell (p := ⟨w.heap.size, 0, none⟩) (by simp)).trans (World.cell?_alloc_mark w _ _ _ 0); have k1 : w1.cell? ⟨w.heap.size, 1, none⟩ = some (.int .i64 id) := (hb.cell (p := ⟨w.heap.size, 1, none⟩) (by simp)).trans (World.cell?_alloc_mark w _ _ _ 1); have k2 : w1.cell? ⟨w.heap.size, 2, none⟩ = some (.int .i64 ie) := (hb.cell (p := ⟨w.heap.size, 2, none⟩) (by simp)).trans (World.cell?_alloc_mark w _ _ _ 2); have k3 : w1.cell? ⟨w.heap.size, 3, none⟩ = some (.int .i64 ic) := (hb.cell (p := ⟨w.heap.size, 3, none⟩) (by simp)).trans (World.cell?_alloc_mark w _ _ _ 3); have k4 : w1.cell? ⟨w.heap.size, 4, none⟩ = some (.slice A n c) := (hb.cell (p := ⟨w.heap.size, 4, none⟩) (by simp)).trans (World.cell?_alloc_mark w _ _ _ 4); have HB := Lib.hid (((Below.refl w.heap.size w).alloc (Nat.le_refl _) _).trans (hb.mono (by simp))); clear hb
  go_wp2_with fail
  refine (HC.out _).mono ?_; rintro e w2 ⟨rfl, hb2⟩
  go_wp2
  go_ret2
  exact ⟨rfl, HB.out.trans (hb2.mono HB.out.size)⟩

set_option maxHeartbeats 4000000 in
theorem rput_ok (i : Mid) (A : Option Addr) (n c : Nat) (l : List UInt8) (w : World) (hR : Rd w A n c l) (h : chkM i n = 0) :
    Calls Try.prog 44 #[msgv i (.slice A n c)] w fun en w' => ∃ A' k, en = .returned (.tuple #[.slice A' (6 + n) k, .int .i64 0]) ∧ OwnB w' w.heap.size 5 (.slice A' (6 + n) k) (idB i ++ l) ∧ Below w.heap.size w w' := by
  have hck := fun W => rcheckm_any i A n c W
  rw [h] at hck; have hpb : pb i = idB i := if_pos (chk_of_chkM h).1; have hpt := fun W => rputid_any i W
  rw [(chk_of_chkM h).1, hpb] at hpt; have hn := (chk_of_chkM h).2.2; have HC := Lib.hid hck; have HP := Lib.hid hpt; have HR := Lib.hid hR; have HIL := Lib.hid (idB_len i); obtain ⟨q, hq⟩ : ∃ q, q = idB i := ⟨_, rfl⟩; rw [← hq] at HP HIL ⊢; clear hck hpt hpb hR h hq; obtain ⟨io, id, ie, ic⟩ := i; unfold msgv at HC ⊢; unfold idv at HP
  go_enter Try.func44, Try.ntmps44
  go_wp2_with fail
  refine (HC.out _).mono ?_; rintro en w1 ⟨rfl, hb⟩; have k0 : w1.cell? ⟨w.heap.size, 0, none⟩ = some (.int .i64 io) := (hb.cell (p := ⟨w.heap.size, 0, none⟩) (by simp)).trans (World.cell?_alloc_mark w _ _ _ 0); have k1 : w1.cell? ⟨w.heap.size, 1, none⟩ = some (.int .i64 id) := (hb.cell (p := ⟨w.heap.size, 1, none⟩) (by simp)).trans (World.cell?_alloc_mark w _ _ _ 1); have k2 : w1.cell? ⟨w.heap.size, 2, none⟩ = some (.int .i64 ie) := (hb.cell (p := ⟨w.heap.size, 2, none⟩) (by simp)).trans (World.cell?_alloc_mark w _ _ _ 2); have k3 : w1.cell? ⟨w.heap.size, 3, none⟩ = some (.int .i64 ic) := (hb.cell (p := ⟨w.heap.size, 3, none⟩) (by simp)).trans (World.cell?_alloc_mark w _ _ _ 3); have k4 : w1.cell? ⟨w.heap.size, 4, none⟩ = some (.slice A n c) := (hb.cell (p := ⟨w.heap.size, 4, none⟩) (by simp)).trans (World.cell?_alloc_mark w _ _ _ 4); have hlt : w.heap.size < w1.heap.size := by have := hb.size; simp at this; omega
  have HB := Lib.hid (((Below.refl w.heap.size w).alloc (Nat.le_refl _) _).trans (hb.mono (by simp))); clear hb
  go_wp2_with fail
  refine (HP.out _).mono ?_; rintro en w2 ⟨A2, m2, c2, rfl, hm2, ho, hb2⟩; have k4' := (hb2.cell (p := ⟨w.heap.size, 4, none⟩) hlt).trans k4; have hm6 : m2 = 6 := by rw [hm2]; exact HIL.out
  subst hm6; have HO := Lib.hid (row_base6 ho HB.out.size); have HB2 := Lib.hid (HB.out.trans (hb2.mono HB.out.size)); clear hb2 k0 k1 k2 k3 k4 ho hm2
  go_wp2_with ((with_reducible show wpList _ _ _ (⟨some 20, _, _, _, _, _⟩ :: _) _ _); refine wpList_app _ rfl elemB (.tmp 17) (.tmp 19) rfl rfl (OwnB.row HO.out HIL.out) rfl ((HR.out.below HB2.out).src) (6 + n) rfl (by omega) HB2.out.size ?_; intro A3 c3 w3 hown3 hg3 hat3)
  have HB3 := below_app' HB2.out (OwnB.row HO.out HIL.out) hg3 (Nat.le_refl _) HB2.out.size
  go_wp2
  go_ret2
  exact ⟨A3, c3, rfl, OwnB.of hown3 _ (by simp [bs]), HB3⟩

theorem rput_any (i : Mid) (A : Option Addr) (n c : Nat) (l : List UInt8) (w : World) (hR : Rd w A n c l) :
    Calls Try.prog 44 #[msgv i (.slice A n c)] w fun en w' => ∃ A' m k, en = .returned (.tuple #[.slice A' m k, .int .i64 (chkM i n)]) ∧ m = (mb i l).length ∧ OwnB w' w.heap.size 5 (.slice A' m k) (mb i l) ∧ Below w.heap.size w w' := by
  by_cases h : chkM i n = 0
  · have e : mb i l = idB i ++ l := by unfold mb; rw [hR.len, if_pos h]
    refine (rput_ok i A n c l w hR h).mono ?_; rintro en w' ⟨A', k, rfl, ho, hb⟩; rw [e, h]; exact ⟨A', 6 + n, k, rfl, by rw [List.length_append, idB_len, hR.len], ho, hb⟩
  · have e : mb i l = [] := by unfold mb; rw [hR.len, if_neg h]
    refine (rput_bad i A n c w h).mono ?_; rintro en w' ⟨rfl, hb⟩; rw [e]; exact ⟨none, 0, 0, rfl, rfl, World.ownsRow_nil _ _ _ _, hb⟩

end Go.Proofs.Ytcnlgcmooegfkaa
