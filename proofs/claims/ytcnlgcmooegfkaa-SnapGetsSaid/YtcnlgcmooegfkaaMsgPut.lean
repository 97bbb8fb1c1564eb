/-
  AN ID's BYTES.
-/
import Derived.Test.YtcnlgcmooegfkaaMsgSame
import Derived.Test.YtcnlgcmooegfkaaBits
namespace Go.Proofs.Ytcnlgcmooegfkaa
open Go.RowKit Mg

/-- an id's bytes -/
def idB (i : Mid) : List UInt8 := [UInt8.ofNat i.o.toNat, UInt8.ofNat i.d.toNat] ++ be i.e.toNat 2 ++ be i.c.toNat 2

set_option maxHeartbeats 2000000 in
theorem putid_bad (i : Mid) (w : World) (h : chk i ≠ 0) : Calls Try.prog 40 #[idv i] w fun e w' => e = .returned (.tuple #[.slice none 0 0, .int .i64 (chk i)]) ∧ Below w.heap.size w w' := by
  have HC := Lib.hid (fun W => check_any i W); obtain ⟨z, hz⟩ : ∃ z, z = chk i := ⟨_, rfl⟩; rw [← hz] at HC h ⊢; have t0 : (z != 0) = true := by simpa using h
  clear hz h; obtain ⟨io, id, ie, ic⟩ := i; unfold idv at HC ⊢
  go_enter Try.func40, Try.ntmps40
  go_wp2_with fail
  refine (HC.out _).mono ?_; rintro e w1 ⟨rfl, hb⟩
  go_wp2
  go_ret2
  exact ⟨rfl, ((Below.refl _ _).alloc (Nat.le_refl _) _).trans (hb.mono (by simp))⟩

theorem row_base6 {w : World} {B B' : Nat} {e : TypeId} {size : Nat} {v : Value} {n : Nat} {xs : List Value} (h : w.ownsRow B e size v n xs) (hB : B' ≤ B) : w.ownsRow B' e size v n xs := by
  refine ⟨h.1, ?_⟩
  rcases h.2 with h2 | ⟨g, cap, cur, hv, hb, r⟩
  · exact .inl h2
  · exact .inr ⟨g, cap, cur, hv, Nat.le_trans hB hb, r⟩
set_option maxHeartbeats 4000000 in
theorem putid_ok (o d e c : Nat) (w : World) (ho : o ≤ 63) (hd : d ≤ 63) (he1 : 1 ≤ e) (he : e ≤ 65535) (hc1 : 1 ≤ c) (hc : c ≤ 65535) (h : chk ⟨o, d, e, c⟩ = 0) :
    Calls Try.prog 40 #[idv ⟨o, d, e, c⟩] w fun en w' => ∃ A k, en = .returned (.tuple #[.slice A 6 k, .int .i64 0]) ∧ OwnB w' w.heap.size 5 (.slice A 6 k) (idB ⟨o, d, e, c⟩) ∧ Below w.heap.size w w' := by
  have hck := fun W => check_any ⟨o, d, e, c⟩ W
  rw [h] at hck; unfold idv at hck ⊢; simp only at hck ⊢; have HC := Lib.hid hck; have b0 : (0 : Int) ≤ (o : Int) := by omega
  have b1 : (o : Int) ≤ 63 := by omega
  have b2 : (0 : Int) ≤ (d : Int) := by omega
  have b3 : (d : Int) ≤ 63 := by omega
  have b4 : (0 : Int) ≤ (e : Int) := by omega
  have b5 : (e : Int) ≤ 65535 := by omega
  have b6 : (0 : Int) ≤ (c : Int) := by omega
  have b7 : (c : Int) ≤ 65535 := by omega
  clear hck h
  go_enter Try.func40, Try.ntmps40
  go_wp2_with fail
  refine (HC.out _).mono ?_; rintro en w1 ⟨rfl, hb⟩; have hs : w.heap.size < w1.heap.size := by have := hb.size; simp at this; omega
  have k0 : w1.cell? ⟨w.heap.size, 0, none⟩ = some (.int .i64 o) := (hb.cell (p := ⟨w.heap.size, 0, none⟩) (by simp)).trans (World.cell?_alloc_mark w _ _ _ 0); have k1 : w1.cell? ⟨w.heap.size, 1, none⟩ = some (.int .i64 d) := (hb.cell (p := ⟨w.heap.size, 1, none⟩) (by simp)).trans (World.cell?_alloc_mark w _ _ _ 1); have k2 : w1.cell? ⟨w.heap.size, 2, none⟩ = some (.int .i64 e) := (hb.cell (p := ⟨w.heap.size, 2, none⟩) (by simp)).trans (World.cell?_alloc_mark w _ _ _ 2); have k3 : w1.cell? ⟨w.heap.size, 3, none⟩ = some (.int .i64 c) := (hb.cell (p := ⟨w.heap.size, 3, none⟩) (by simp)).trans (World.cell?_alloc_mark w _ _ _ 3); have HB := Lib.hid (((Below.refl w.heap.size w).alloc (Nat.le_refl _) _).trans (hb.mono (by simp))); clear hb
  go_wp2_with fail
  have hr0 : Rd (w1.alloc (.cells #[.int .u8 (o : Int), .int .u8 (d : Int)] 5)) (some ⟨w1.heap.size, 0, none⟩) 2 2 [UInt8.ofNat o, UInt8.ofNat d] := by
    have := rd_lit w1 [UInt8.ofNat o, UInt8.ofNat d] 2 rfl (by omega) 5 (0, 0); have e1 : (bs [UInt8.ofNat o, UInt8.ofNat d]).toArray = #[.int .u8 (o : Int), .int .u8 (d : Int)] := by
      simp [bs, bv]; omega
    rwa [e1] at this
  refine (bput2 _ 2 2 _ e _ hr0 (by omega) (by omega)).mono ?_; rintro en w2 ⟨A2, c2, rfl, ho2, hb2⟩; have hsz2 : w1.heap.size + 1 ≤ w2.heap.size := by have := hb2.size; simpa using this
  have hlt2 : w.heap.size < w2.heap.size := by omega
  have k3' : w2.cell? ⟨w.heap.size, 3, none⟩ = some (.int .i64 c) := (hb2.cell (p := ⟨w.heap.size, 3, none⟩) (by simp; omega)).trans ((((Below.refl _ _).alloc (Nat.le_refl _) _ : Below w1.heap.size w1 (w1.alloc _)).cell (p := ⟨w.heap.size, 3, none⟩) hs).trans k3); have hl2 : ([UInt8.ofNat o, UInt8.ofNat d] ++ be e 2).length = 4 := by simp [be_len]
  have HR2 := Lib.hid (ho2.rd hl2 (by omega)); have HB2 := Lib.hid ((HB.out.alloc (by omega) (.cells #[.int .u8 (o : Int), .int .u8 (d : Int)] 5)).trans (hb2.mono (by simp; omega))); simp only [Nat.reduceAdd]; clear hb2 ho2 hl2 hr0 k0 k1 k2 k3
  go_wp2_with fail
  refine (bput2 _ 4 c2 _ c _ HR2.out (by omega) (by omega)).mono ?_; rintro en w3 ⟨A3, c3, rfl, ho3, hb3⟩; simp only [Nat.reduceAdd]; have HO3 := Lib.hid ho3; have HB3 := Lib.hid (HB2.out.trans (hb3.mono HB2.out.size)); clear hb3 ho3
  go_wp2
  go_ret2
  refine ⟨A3, c3, rfl, ?_, HB3.out⟩; have h9 : idB ⟨o, d, e, c⟩ = [UInt8.ofNat o, UInt8.ofNat d] ++ be e 2 ++ be c 2 := by simp [idB]
  rw [h9]; exact row_base6 HO3.out (by omega)
end Go.Proofs.Ytcnlgcmooegfkaa
