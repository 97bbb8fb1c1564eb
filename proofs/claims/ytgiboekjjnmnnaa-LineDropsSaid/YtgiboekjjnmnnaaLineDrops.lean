/-
  LineDrops.
-/
import Derived.Test.YtgiboekjjnmnnaaLineMore
import Derived.Test.YtgiboekjjnmnnaaLineLaws
import Derived.Test.YtgiboekjjnmnnaaFlag
namespace Go.Proofs.Ytgiboekjjnmnnaa
open Go.RowKit

/-- a line of delay 3 at tick 0 that holds the bytes p -/
def LS (w0 : World) (g n : Nat) (p : List UInt8) (w : World) : Prop := ∃ P D due, Ln w w0.heap.size g 3 0 n n P D p due ∧ Below w0.heap.size w0 w
theorem LS.grow {w0 w w' : World} {g n : Nat} {p : List UInt8} (h : LS w0 g n p w) (hb : Below w.heap.size w w') : LS w0 g n p w' := by
  obtain ⟨P, D, due, h1, h2⟩ := h
  exact ⟨P, D, due, h1.below hb, h2.trans (hb.mono h2.size)⟩
theorem LS.low {w0 w : World} {g n : Nat} {p : List UInt8} (h : LS w0 g n p w) : Below w0.heap.size w0 w := by obtain ⟨P, D, due, h1, h2⟩ := h; exact h2
theorem LS.glt {w0 w : World} {g n : Nat} {p : List UInt8} (h : LS w0 g n p w) : g < w.heap.size := by obtain ⟨P, D, due, h1, h2⟩ := h; exact h1.lt

theorem ls_len {w0 w : World} {g n : Nat} {p : List UInt8} (h : LS w0 g n p w) :
    Calls Try.prog 10 #[.pointer (some ⟨g, 0, none⟩)] w fun e w' => e = .returned (.int .i64 (n : Int)) ∧ w' = w := by
  obtain ⟨P, D, due, h1, h2⟩ := h
  exact len_any w h1
theorem ls_bytes {w0 w : World} {g n : Nat} {p : List UInt8} (h : LS w0 g n p w) (hn : n ≤ 65536) :
    Calls Try.prog 15 #[.pointer (some ⟨g, 0, none⟩)] w fun e w' => ∃ A c, e = .returned (.slice A n c) ∧ Rd w' A n c p ∧ (∀ b off, A = some ⟨b, off, none⟩ → w.heap.size ≤ b) ∧ LS w0 g n p w' ∧ Below w.heap.size w w' := by
  obtain ⟨P, D, due, h1, h2⟩ := h
  have hl := h1.plen
  refine (bytes_any w h1 (by omega)).mono ?_
  rintro e w' ⟨A, c, rfl, ho, hb⟩
  refine ⟨A, c, rfl, ho.rd hl (by omega), ?_, ⟨P, D, due, h1.below hb, h2.trans (hb.mono h2.size)⟩, hb⟩
  rintro b off rfl
  exact (World.ownsRow.lt ho b rfl).1
theorem ls_insert {w0 w : World} {g n : Nat} {p : List UInt8} (h : LS w0 g n p w) (hn : n < 65536) (k : Nat) (hk : k ≤ n) (b : UInt8) :
    Calls Try.prog 17 #[.pointer (some ⟨g, 0, none⟩), .int .i64 k, bv b] w fun e w' => e = .returned (.int .i64 0) ∧ LS w0 g (n + 1) (p.take k ++ b :: p.drop k) w' ∧ Kept (fun i => i = g) w w' := by
  obtain ⟨P, D, due, h1, h2⟩ := h
  have hd := h1.dlen
  obtain ⟨x, hx0, hx1⟩ : ∃ x : Int, (n = 0 → x = 0 + 3) ∧ (0 < n → due[min k (n - 1)]? = some x) := by
    rcases Nat.eq_zero_or_pos n with h0 | h0
    · exact ⟨3, fun _ => by omega, fun h => by omega⟩
    · exact ⟨due[min k (n - 1)]'(by omega), fun h => by omega, fun _ => List.getElem?_eq_getElem _⟩
  refine (insert_ok w h1 h2.size hn (by omega) (by omega) (by omega) (by omega) k hk b x hx0 hx1).mono ?_
  rintro e w' ⟨P', D', rfl, H, K, _, _⟩
  exact ⟨rfl, ⟨P', D', _, H, h2.trans (h1.under (K.mono fun _ _ e => .inl e) h2.size)⟩, K⟩
theorem ls_drop {w0 w : World} {g n : Nat} {p : List UInt8} (h : LS w0 g n p w) (hn : n ≤ 65536) (k m : Nat) (hk : k + m ≤ n) :
    Calls Try.prog 18 #[.pointer (some ⟨g, 0, none⟩), .int .i64 k, .int .i64 m] w fun e w' => e = .returned (.int .i64 0) ∧ LS w0 g (n - m) (p.take k ++ p.drop (k + m)) w' ∧ Kept (fun i => i = g) w w' := by
  obtain ⟨P, D, due, h1, h2⟩ := h
  refine (drop_ok w h1 h2.size hn k m hk).mono ?_
  rintro e w' ⟨P', D', rfl, H, K, _, _⟩
  exact ⟨rfl, ⟨P', D', _, H, h2.trans (h1.under (K.mono fun _ _ e => .inl e) h2.size)⟩, K⟩

/-- the same, its rows named: what a Flip leaves -/
def LF (w0 : World) (g n : Nat) (P D : Value) (p : List UInt8) (w : World) : Prop := ∃ due, Ln w w0.heap.size g 3 0 n n P D p due ∧ Below w0.heap.size w0 w
theorem lf_flip {w0 w : World} {g n : Nat} {P D : Value} {p : List UInt8} (h : LF w0 g n P D p w) (k : Nat) (x : UInt8) (hx : p[k]? = some x) (hk : k < n) :
    Calls Try.prog 19 #[.pointer (some ⟨g, 0, none⟩), .int .i64 k, .int .i64 3] w fun e w' => e = .returned (.int .i64 0) ∧ LF w0 g n P D (p.set k (x ^^^ 3)) w' ∧ Kept (LnS g P D) w w' := by
  obtain ⟨due, h1, h2⟩ := h
  refine (flip_ok w h1 k hk 3 3 x rfl (by decide) hx).mono ?_
  rintro e w' ⟨rfl, H, K⟩
  exact ⟨rfl, ⟨due, H, h2.trans (h1.under K h2.size)⟩, K⟩

theorem LF.grow {w0 w w' : World} {g n : Nat} {P D : Value} {p : List UInt8} (h : LF w0 g n P D p w) (hb : Below w.heap.size w w') : LF w0 g n P D p w' := by
  obtain ⟨due, h1, h2⟩ := h
  exact ⟨due, h1.below hb, h2.trans (hb.mono h2.size)⟩
theorem LF.low {w0 w : World} {g n : Nat} {P D : Value} {p : List UInt8} (h : LF w0 g n P D p w) : Below w0.heap.size w0 w := by obtain ⟨due, h1, h2⟩ := h; exact h2
theorem lf_bytes {w0 w : World} {g n : Nat} {P D : Value} {p : List UInt8} (h : LF w0 g n P D p w) (hn : n ≤ 65536) :
    Calls Try.prog 15 #[.pointer (some ⟨g, 0, none⟩)] w fun e w' => ∃ A c, e = .returned (.slice A n c) ∧ Rd w' A n c p ∧ (∀ b off, A = some ⟨b, off, none⟩ → w.heap.size ≤ b) ∧ LF w0 g n P D p w' ∧ Below w.heap.size w w' := by
  obtain ⟨due, h1, h2⟩ := h
  have hl := h1.plen
  refine (bytes_any w h1 (by omega)).mono ?_
  rintro e w' ⟨A, c, rfl, ho, hb⟩
  refine ⟨A, c, rfl, ho.rd hl (by omega), ?_, ⟨due, h1.below hb, h2.trans (hb.mono h2.size)⟩, hb⟩
  rintro b off rfl
  exact (World.ownsRow.lt ho b rfl).1

theorem ins_drop (p : List UInt8) (k : Nat) (b : UInt8) (hk : k ≤ p.length) : (p.take k ++ b :: p.drop k).take k ++ (p.take k ++ b :: p.drop k).drop (k + 1) = p := by
  have e1 : (p.take k ++ b :: p.drop k).take k = p.take k := List.take_left' (by simp; omega)
  have e2 : (p.take k ++ b :: p.drop k).drop (k + 1) = p.drop k := by
    rw [List.drop_append, List.drop_of_length_le (by simp; omega)]
    have : k + 1 - (p.take k).length = 1 := by simp; omega
    rw [this]
    simp
  rw [e1, e2, List.take_append_drop]
theorem flip_flip (p : List UInt8) (k : Nat) (x m : UInt8) (hx : p[k]? = some x) : (p.set k (x ^^^ m)).set k ((x ^^^ m) ^^^ m) = p := by
  rw [List.set_set]
  have e : x ^^^ m ^^^ m = x := by rw [UInt8.xor_assoc, UInt8.xor_self, UInt8.xor_zero]
  rw [e]
  obtain ⟨h, rfl⟩ := List.getElem?_eq_some_iff.1 hx
  exact List.set_getElem_self h

theorem add_strings {P : Program} (w : World) (a b : List UInt8) (h : a.length + b.length ≤ 9223372036854775807) : (Op.stringOp .add ⟨a.toArray⟩ ⟨b.toArray⟩).run P w = .ok (.string ⟨(a ++ b).toArray⟩) w := by
  rw [← ByteArray.mk_append_mk]
  exact run_string_add_sum (P := P) (w := w) _ _ (by simpa [ByteArray.size] using h)

/-- bytes that a call has made behind world z -/
def Made (z : World) (n : Nat) (p : List UInt8) : Free.Fact := fun v w => ∃ A c, v = .slice A n c ∧ Rd w A n c p ∧ ∀ b off, A = some ⟨b, off, none⟩ → z.heap.size ≤ b
theorem Made.mono {z : World} {n : Nat} {p : List UInt8} (v : Value) (w w' : World) (h : Made z n p v w) (hk : Kept (fun i => i < z.heap.size) w w') : Made z n p v w' := by
  obtain ⟨A, c, rfl, hr, hA⟩ := h
  exact ⟨A, c, rfl, hr.keep hk.size fun b off e hb => hk.block b hb (by have := hA b off e; omega), hA⟩

theorem u64_nat (z : Int) : ∃ a : Nat, IntKind.u64.wrap z = (a : Int) ∧ a < 18446744073709551616 := by
  have e : IntKind.u64.wrap z = z % 18446744073709551616 := by
    simp [IntKind.wrap, IntKind.bits, IntKind.signed]
  exact ⟨(z % 18446744073709551616).toNat, by omega, by omega⟩

set_option maxHeartbeats 4000000 in
set_option maxRecDepth 100000 in
theorem drops_law (A : Option Addr) (n c : Nat) (p : List UInt8) (w : World) (hR : Rd w A n c p) (at_ m_ : Int) :
    Calls Try.prog 5 #[.slice A n c, .int .i64 at_, .int .i64 m_] w fun e w' => e = .returned (.bool true) ∧ Below w.heap.size w w' := by
  have HR := Lib.hid hR
  have hlen := Lib.hid hR.len
  have hnb := hR.big
  clear hR
  go_enter Try.func5, Try.ntmps5
  by_cases hbig : 3000 < n
  · have t1 : decide ((3000 : Int) < n) = true := by simp; omega
    go_wp2_with (first
      | (go_at_call 7; refine (new_ok _ 3 (by omega) (by omega)).mono ?_; rintro e w1 ⟨rfl, H1, hb1⟩; clear H1)
      | (go_at_call 8; refine (awake_any _).mono ?_; rintro e w' ⟨rfl, hb2⟩))
    go_ret
    exact ⟨rfl, hb1.trans (hb2.mono hb1.size)⟩
  have t1 : decide ((3000 : Int) < n) = false := by simp; omega
  obtain ⟨a, ha, ha'⟩ := u64_nat at_
  obtain ⟨b, hb, hb'⟩ := u64_nat m_
  obtain ⟨k, hk⟩ : ∃ k, k = a % (n + 1) := ⟨_, rfl⟩
  have hkn : k ≤ n := by have := Nat.mod_lt a (show 0 < n + 1 by omega); omega
  obtain ⟨m, hm⟩ : ∃ m, m = b % (n - k + 1) := ⟨_, rfl⟩
  have hmn : k + m ≤ n := by have := Nat.mod_lt b (show 0 < n - k + 1 by omega); omega
  have hk1 : (a : Int) % ((n : Int) + 1) = (k : Int) := by rw [hk]; push_cast; rfl
  have hm1 : (b : Int) % ((n : Int) - (k : Int) + 1) = (m : Int) := by rw [hm, show ((n : Int) - (k : Int) + 1) = ((n - k + 1 : Nat) : Int) by omega]; push_cast; rfl
  clear hk hm
  go_wp2_with (go_at_call 7; refine (new_ok _ 3 (by omega) (by omega)).mono ?_; rintro e w1 ⟨rfl, H1, hb1⟩)
  refine (put_any _ H1 hb1.size (by omega) (by omega) (by omega) (by omega) (HR.out.below hb1) (by omega)).mono ?_
  rintro e w2 ⟨P2, D2, rfl, H2, k2, aP2, aD2⟩
  rw [List.nil_append, List.nil_append, Nat.zero_add] at H2
  have HS := Lib.hid (show LS w w.heap.size n p w2 from ⟨_, _, _, H2, hb1.trans (H1.under k2 hb1.size)⟩)
  clear H1 H2 k2 aP2 aD2 hb1
  have hglt := HS.out.glt
  have hw1 : IntKind.i64.wrap ((n : Int) + 1) = (n : Int) + 1 := IntWalk.i64_in _ ⟨by omega, by omega⟩
  go_wp2_with fail
  refine Free.wp_seq2 (I := fun L w' => cond (L 15) (LS w w.heap.size n p w') (cond (L 2) (LS w w.heap.size (n + 1) (p.take k ++ 7 :: p.drop k) w') (LS w w.heap.size n p w')) ∧ w2.heap.size ≤ w'.heap.size) (Gr := fun x y => Kept (fun i => i < w2.heap.size) x y) (by kernel_rfl) (by kernel_rfl) ⟨HS.out.grow ((Below.refl _ _).drew), Nat.le_refl _⟩ ?_
  refine Free.Seq2.val ?_ (fun _ => Kept.refl _ _) (fun _ _ h => h) (fun a w1 L hI hp => ?_) ?_
  rotate_left
  · have e7 := hp.slotV 7 (by kernel_rfl) rfl; simp at e7
    refine ⟨Free.want_none rfl, ?_⟩
    clear hp
    go_simp
    rfl
  refine Free.Seq2.val ?_ (fun _ => Kept.refl _ _) (fun _ _ h => h) (fun a w1 L hI hp => ?_) ?_
  rotate_left
  · have e9 := hp.slotV 9 (by kernel_rfl) rfl; simp at e9
    refine ⟨Free.want_none rfl, ?_⟩
    clear hp
    go_simp
    rfl
  refine Free.Seq2.call (T := Free.eqF (.int .i64 0)) (fun _ _ _ h _ => h) (fun a w1 L hI hp => ?_) ?_
  · have e54 := hp.backV 0 1 rfl rfl rfl rfl rfl; have e55 := hp.backV 1 0 rfl rfl rfl rfl rfl
    have h15 : L 15 = false := hp.up 15 40 (by kernel_rfl)
    have h2 : L 2 = false := hp.fresh
    have hS : LS w w.heap.size n p w1 := by have h := hI.1; simp only [h15, h2, cond_false] at h; exact h
    refine ⟨Free.want_none rfl, 17, #[.pointer (some ⟨w.heap.size, 0, none⟩), .int .i64 k, .int .u8 7], ?_, ?_⟩
    · clear hp
      go_simp
    · refine (ls_insert hS (by omega) k hkn 7).mono ?_
      rintro e w' ⟨rfl, hS2, hK⟩
      exact ⟨_, rfl, rfl, hK.mono (fun i _ e => by rw [e]; exact hglt), (by simp only [List.length_cons, List.length_nil, Nat.reduceAdd, (show Free.upd L 2 15 = false from h15), (show Free.upd L 2 2 = true from rfl), cond_true, cond_false]; exact hS2), Nat.le_trans hI.2 hK.size⟩
  refine Free.Seq2.val ?_ (fun _ => Kept.refl _ _) (fun _ _ h => h) (fun a w1 L hI hp => ?_) ?_
  rotate_left
  · have e56 := hp.backV 2 0 rfl rfl rfl rfl rfl
    refine ⟨Free.want_none rfl, ?_⟩
    clear hp
    go_simp
    rfl
  refine Free.Seq2.val ?_ (fun _ => Kept.refl _ _) (fun _ _ h => h) (fun a w1 L hI hp => ?_) ?_
  rotate_left
  · have e57 := hp.backV 3 0 rfl rfl rfl rfl rfl
    refine ⟨Free.want_none rfl, ?_⟩
    clear hp
    go_simp
    rfl
  refine Free.Seq2.val ?_ (fun _ => Kept.refl _ _) (fun _ _ h => h) (fun a w1 L hI hp => ?_) ?_
  rotate_left
  · have e58 := hp.backV 4 0 rfl rfl rfl rfl rfl; have e7 := hp.slotV 7 (by kernel_rfl) rfl; simp at e7
    refine ⟨hp.want rfl rfl rfl e58, ?_⟩
    clear hp
    go_simp
    rfl
  refine Free.Seq2.call (T := Free.eqF (.int .i64 ((n : Int) + 1))) (fun _ _ _ h _ => h) (fun a w1 L hI hp => ?_) ?_
  · have e58 := hp.backV 4 1 rfl rfl rfl rfl rfl; have e59 := hp.backV 5 0 rfl rfl rfl rfl rfl
    have h15 : L 15 = false := hp.up 15 40 (by kernel_rfl)
    have h2 : L 2 = true := hp.did 2 40 (by kernel_rfl)
    have hS : LS w w.heap.size (n + 1) (p.take k ++ 7 :: p.drop k) w1 := by have h := hI.1; simp only [h15, h2, cond_true, cond_false] at h; exact h
    refine ⟨hp.want rfl rfl rfl e58, 10, #[.pointer (some ⟨w.heap.size, 0, none⟩)], ?_, ?_⟩
    · clear hp
      go_simp
    · refine (ls_len hS).mono ?_
      rintro e w' ⟨rfl, rfl⟩
      exact ⟨_, rfl, rfl, Kept.refl _ _, hI⟩
  refine Free.Seq2.val ?_ (fun _ => Kept.refl _ _) (fun _ _ h => h) (fun a w1 L hI hp => ?_) ?_
  rotate_left
  · have e58 := hp.backV 4 2 rfl rfl rfl rfl rfl; have e0 := hp.slotV 0 (by kernel_rfl) rfl; simp at e0
    refine ⟨hp.want rfl rfl rfl e58, ?_⟩
    clear hp
    go_simp
    rfl
  refine Free.Seq2.val ?_ (fun _ => Kept.refl _ _) (fun _ _ h => h) (fun a w1 L hI hp => ?_) ?_
  rotate_left
  · have e58 := hp.backV 4 3 rfl rfl rfl rfl rfl; have e61 := hp.backV 7 0 rfl rfl rfl rfl rfl
    refine ⟨hp.want rfl rfl rfl e58, ?_⟩
    clear hp
    go_simp
    rfl
  refine Free.Seq2.val ?_ (fun _ => Kept.refl _ _) (fun _ _ h => h) (fun a w1 L hI hp => ?_) ?_
  rotate_left
  · have e58 := hp.backV 4 4 rfl rfl rfl rfl rfl; have e62 := hp.backV 8 0 rfl rfl rfl rfl rfl
    refine ⟨hp.want rfl rfl rfl e58, ?_⟩
    clear hp
    go_simp
    rfl
  refine Free.Seq2.val ?_ (fun _ => Kept.refl _ _) (fun _ _ h => h) (fun a w1 L hI hp => ?_) ?_
  rotate_left
  · have e58 := hp.backV 4 5 rfl rfl rfl rfl rfl; have e60 := hp.backV 6 3 rfl rfl rfl rfl rfl; have e63 := hp.backV 9 0 rfl rfl rfl rfl rfl
    refine ⟨hp.want rfl rfl rfl e58, ?_⟩
    clear hp
    go_simp
    rfl
  refine Free.Seq2.val ?_ (fun _ => Kept.refl _ _) (fun _ _ h => h) (fun a w1 L hI hp => ?_) ?_
  rotate_left
  · have e58 := hp.backV 4 6 rfl rfl rfl rfl rfl; have e64 := hp.backV 10 0 rfl rfl rfl rfl rfl
    refine ⟨Free.want_none rfl, ?_⟩
    clear hp
    go_simp
    rfl
  refine Free.Seq2.val ?_ (fun _ => Kept.refl _ _) (fun _ _ h => h) (fun a w1 L hI hp => ?_) ?_
  rotate_left
  · have e65 := hp.backV 11 0 rfl rfl rfl rfl rfl
    refine ⟨Free.want_none rfl, ?_⟩
    clear hp
    go_simp
    rfl
  refine Free.Seq2.val ?_ (fun _ => Kept.refl _ _) (fun _ _ h => h) (fun a w1 L hI hp => ?_) ?_
  rotate_left
  · have e66 := hp.backV 12 0 rfl rfl rfl rfl rfl; have e7 := hp.slotV 7 (by kernel_rfl) rfl; simp at e7
    refine ⟨hp.want rfl rfl rfl e66, ?_⟩
    clear hp
    go_simp
    rfl
  refine Free.Seq2.val ?_ (fun _ => Kept.refl _ _) (fun _ _ h => h) (fun a w1 L hI hp => ?_) ?_
  rotate_left
  · have e66 := hp.backV 12 1 rfl rfl rfl rfl rfl; have e9 := hp.slotV 9 (by kernel_rfl) rfl; simp at e9
    refine ⟨hp.want rfl rfl rfl e66, ?_⟩
    clear hp
    go_simp
    rfl
  refine Free.Seq2.call (T := Free.eqF (.int .i64 0)) (fun _ _ _ h _ => h) (fun a w1 L hI hp => ?_) ?_
  · have e66 := hp.backV 12 2 rfl rfl rfl rfl rfl; have e67 := hp.backV 13 1 rfl rfl rfl rfl rfl; have e68 := hp.backV 14 0 rfl rfl rfl rfl rfl
    have h15 : L 15 = false := hp.fresh
    have h2 : L 2 = true := hp.did 2 40 (by kernel_rfl)
    have hS : LS w w.heap.size (n + 1) (p.take k ++ 7 :: p.drop k) w1 := by have h := hI.1; simp only [h15, h2, cond_true, cond_false] at h; exact h
    refine ⟨hp.want rfl rfl rfl e66, 18, #[.pointer (some ⟨w.heap.size, 0, none⟩), .int .i64 k, .int .i64 1], ?_, ?_⟩
    · clear hp
      go_simp
    · refine (ls_drop hS (by omega) k 1 (by omega)).mono ?_
      rintro e w' ⟨rfl, hS2, hK⟩
      exact ⟨_, rfl, rfl, hK.mono (fun i _ e => by rw [e]; exact hglt), (by simp only [List.length_cons, List.length_nil, Nat.reduceAdd, (show Free.upd L 15 15 = true from rfl), cond_true]; exact (by rw [Nat.add_sub_cancel, ins_drop _ _ _ (by rw [hlen.out]; exact hkn)] at hS2; exact hS2)), Nat.le_trans hI.2 hK.size⟩
  refine Free.Seq2.val ?_ (fun _ => Kept.refl _ _) (fun _ _ h => h) (fun a w1 L hI hp => ?_) ?_
  rotate_left
  · have e66 := hp.backV 12 3 rfl rfl rfl rfl rfl; have e69 := hp.backV 15 0 rfl rfl rfl rfl rfl
    refine ⟨hp.want rfl rfl rfl e66, ?_⟩
    clear hp
    go_simp
    rfl
  refine Free.Seq2.val ?_ (fun _ => Kept.refl _ _) (fun _ _ h => h) (fun a w1 L hI hp => ?_) ?_
  rotate_left
  · have e66 := hp.backV 12 4 rfl rfl rfl rfl rfl; have e70 := hp.backV 16 0 rfl rfl rfl rfl rfl
    refine ⟨Free.want_none rfl, ?_⟩
    clear hp
    go_simp
    rfl
  refine Free.Seq2.val ?_ (fun _ => Kept.refl _ _) (fun _ _ h => h) (fun a w1 L hI hp => ?_) ?_
  rotate_left
  · have e71 := hp.backV 17 0 rfl rfl rfl rfl rfl
    refine ⟨Free.want_none rfl, ?_⟩
    clear hp
    go_simp
    rfl
  refine Free.Seq2.val ?_ (fun _ => Kept.refl _ _) (fun _ _ h => h) (fun a w1 L hI hp => ?_) ?_
  rotate_left
  · have e72 := hp.backV 18 0 rfl rfl rfl rfl rfl; have e7 := hp.slotV 7 (by kernel_rfl) rfl; simp at e7
    refine ⟨hp.want rfl rfl rfl e72, ?_⟩
    clear hp
    go_simp
    rfl
  refine Free.Seq2.call (T := Made w2 n p) (fun v w w2 h hk => h.mono _ _ _ hk) (fun a w1 L hI hp => ?_) ?_
  · have e72 := hp.backV 18 1 rfl rfl rfl rfl rfl; have e73 := hp.backV 19 0 rfl rfl rfl rfl rfl
    have h15 : L 15 = true := hp.did 15 40 (by kernel_rfl)
    have hS : LS w w.heap.size n p w1 := by have h := hI.1; simp only [h15, cond_true] at h; exact h
    refine ⟨hp.want rfl rfl rfl e72, 15, #[.pointer (some ⟨w.heap.size, 0, none⟩)], ?_, ?_⟩
    · clear hp
      go_simp
    · refine (ls_bytes hS (by omega)).mono ?_
      rintro e w' ⟨A1, c1, rfl, hr, hA1, hS2, hb1⟩
      exact ⟨_, rfl, ⟨_, _, rfl, hr, fun b off e => Nat.le_trans hI.2 (hA1 b off e)⟩, Kept.all hb1, (by simp only [List.length_cons, List.length_nil, Nat.reduceAdd, (show Free.upd L 20 15 = true from h15), cond_true]; exact hS2), Nat.le_trans hI.2 hb1.size⟩
  refine Free.Seq2.val ?_ (fun _ => Kept.refl _ _) (fun _ _ h => h) (fun a w1 L hI hp => ?_) ?_
  rotate_left
  · have e72 := hp.backV 18 2 rfl rfl rfl rfl rfl
    obtain ⟨A1, c1, e74, hr, _⟩ := hp.back 20 0 rfl rfl rfl rfl rfl
    have hc := hr.string (P := Try.prog) 28 9 5 Try.underlying28 Try.underlying5 Try.underlying9
    refine ⟨hp.want rfl rfl rfl e72, ?_⟩
    clear hp
    go_simp
    rfl
  refine Free.Seq2.val ?_ (fun _ => Kept.refl _ _) (fun _ _ h => h) (fun a w1 L hI hp => ?_) ?_
  rotate_left
  · have e72 := hp.backV 18 3 rfl rfl rfl rfl rfl; have e0 := hp.slotV 0 (by kernel_rfl) rfl; simp at e0
    refine ⟨hp.want rfl rfl rfl e72, ?_⟩
    clear hp
    go_simp
    rfl
  refine Free.Seq2.val ?_ (fun _ => Kept.refl _ _) (fun _ _ h => h) (fun a w1 L hI hp => ?_) ?_
  rotate_left
  · have e72 := hp.backV 18 4 rfl rfl rfl rfl rfl; have e76 := hp.backV 22 0 rfl rfl rfl rfl rfl
    have h15 : L 15 = true := hp.did 15 40 (by kernel_rfl)
    have hS : LS w w.heap.size n p w1 := by have h := hI.1; simp only [h15, cond_true] at h; exact h
    have hc := (HR.out.below hS.low).string (P := Try.prog) 28 9 5 Try.underlying28 Try.underlying5 Try.underlying9
    refine ⟨hp.want rfl rfl rfl e72, ?_⟩
    clear hp
    go_simp
    rfl
  refine Free.Seq2.val ?_ (fun _ => Kept.refl _ _) (fun _ _ h => h) (fun a w1 L hI hp => ?_) ?_
  rotate_left
  · have e72 := hp.backV 18 5 rfl rfl rfl rfl rfl; have e75 := hp.backV 21 2 rfl rfl rfl rfl rfl; have e77 := hp.backV 23 0 rfl rfl rfl rfl rfl
    refine ⟨hp.want rfl rfl rfl e72, ?_⟩
    clear hp
    go_simp
    rfl
  refine Free.Seq2.val ?_ (fun _ => Kept.refl _ _) (fun _ _ h => h) (fun a w1 L hI hp => ?_) ?_
  rotate_left
  · have e72 := hp.backV 18 6 rfl rfl rfl rfl rfl; have e78 := hp.backV 24 0 rfl rfl rfl rfl rfl
    refine ⟨Free.want_none rfl, ?_⟩
    clear hp
    go_simp
    rfl
  refine Free.Seq2.done (by simp) (fun wz L hIz hLz => ?_)
  simp only [List.reverse_cons, List.reverse_nil, List.nil_append, List.cons_append, Free.All, Free.eqF, forall_eq]
  rintro vB -
  simp only [Free.putL, Act.put, List.setIfInBounds_toArray, List.set_cons_zero, List.set_cons_succ]
  have hglt3 := by have h := hIz.2; exact h
  have HS3 := Lib.hid (show LS w w.heap.size n p wz from by have h := hIz.1; rw [hLz 15 (by decide)] at h; exact h)
  obtain ⟨w3, hw3⟩ : ∃ w3, w3 = wz := ⟨_, rfl⟩
  simp only [← hw3] at HS3 ⊢
  clear hIz hLz hw3 hglt3
  have hglt3 := HS3.out.glt
  go_wp2_with fail
  by_cases hkl : k < n
  · have t2 : decide ((k : Int) < n) = true := by simp; omega
    obtain ⟨P, D, due, H3, hb3⟩ := HS3.out
    have HF := Lib.hid (show LF w w.heap.size n P D p w3 from ⟨due, H3, hb3⟩)
    have hx : p[k]? = some (p[k]'(by rw [hlen.out]; exact hkl)) := List.getElem?_eq_getElem _
    obtain ⟨x, hx'⟩ : ∃ x, x = p[k]'(by rw [hlen.out]; exact hkl) := ⟨_, rfl⟩
    rw [← hx'] at hx
    have hx2 := Lib.hid (show (p.set k (x ^^^ 3))[k]? = some (x ^^^ 3) by rw [List.getElem?_set_self (by rw [hlen.out]; exact hkl)])
    have hx := Lib.hid hx
    have hlow : ∀ i, LnS w.heap.size P D i → i < w3.heap.size := by
      rintro i (rfl | e | e)
      · exact hglt3
      · exact (H3.hp.lt i e).2
      · exact (H3.hd.lt i e).2
    clear H3 hb3 hx'
    refine Free.wp_seq2 (I := fun L w' => cond (L 12) (LF w w.heap.size n P D p w') (cond (L 7) (LF w w.heap.size n P D (p.set k (x ^^^ 3)) w') (LF w w.heap.size n P D p w')) ∧ w3.heap.size ≤ w'.heap.size) (Gr := fun x y => Kept (fun i => i < w3.heap.size) x y) (by kernel_rfl) (by kernel_rfl) ⟨HF.out.grow ((Below.refl _ _).drew), Nat.le_refl _⟩ ?_
    refine Free.Seq2.val ?_ (fun _ => Kept.refl _ _) (fun _ _ h => h) (fun a w1 L hI hp => ?_) ?_
    rotate_left
    · have e9 := hp.slotV 9 (by kernel_rfl) rfl; simp at e9
      refine ⟨Free.want_none rfl, ?_⟩
      clear hp
      go_simp
      rfl
    refine Free.Seq2.val ?_ (fun _ => Kept.refl _ _) (fun _ _ h => h) (fun a w1 L hI hp => ?_) ?_
    rotate_left
    · have e0 := hp.slotV 0 (by kernel_rfl) rfl; simp at e0
      refine ⟨Free.want_none rfl, ?_⟩
      clear hp
      go_simp
      rfl
    refine Free.Seq2.val ?_ (fun _ => Kept.refl _ _) (fun _ _ h => h) (fun a w1 L hI hp => ?_) ?_
    rotate_left
    · have e81 := hp.backV 1 0 rfl rfl rfl rfl rfl
      refine ⟨Free.want_none rfl, ?_⟩
      clear hp
      go_simp
      rfl
    refine Free.Seq2.val ?_ (fun _ => Kept.refl _ _) (fun _ _ h => h) (fun a w1 L hI hp => ?_) ?_
    rotate_left
    · have e80 := hp.backV 0 2 rfl rfl rfl rfl rfl; have e82 := hp.backV 2 0 rfl rfl rfl rfl rfl
      refine ⟨Free.want_none rfl, ?_⟩
      clear hp
      go_simp
      rfl
    refine Free.Seq2.val ?_ (fun _ => Kept.refl _ _) (fun _ _ h => h) (fun a w1 L hI hp => ?_) ?_
    rotate_left
    · have e83 := hp.backV 3 0 rfl rfl rfl rfl rfl
      refine ⟨Free.want_none rfl, ?_⟩
      clear hp
      go_simp
      rfl
    refine Free.Seq2.val ?_ (fun _ => Kept.refl _ _) (fun _ _ h => h) (fun a w1 L hI hp => ?_) ?_
    rotate_left
    · have e84 := hp.backV 4 0 rfl rfl rfl rfl rfl; have e7 := hp.slotV 7 (by kernel_rfl) rfl; simp at e7
      refine ⟨hp.want rfl rfl rfl e84, ?_⟩
      clear hp
      go_simp
      rfl
    refine Free.Seq2.val ?_ (fun _ => Kept.refl _ _) (fun _ _ h => h) (fun a w1 L hI hp => ?_) ?_
    rotate_left
    · have e84 := hp.backV 4 1 rfl rfl rfl rfl rfl; have e9 := hp.slotV 9 (by kernel_rfl) rfl; simp at e9
      refine ⟨hp.want rfl rfl rfl e84, ?_⟩
      clear hp
      go_simp
      rfl
    refine Free.Seq2.call (T := Free.eqF (.int .i64 0)) (fun _ _ _ h _ => h) (fun a w1 L hI hp => ?_) ?_
    · have e84 := hp.backV 4 2 rfl rfl rfl rfl rfl; have e85 := hp.backV 5 1 rfl rfl rfl rfl rfl; have e86 := hp.backV 6 0 rfl rfl rfl rfl rfl
      have h12 : L 12 = false := hp.up 12 40 (by kernel_rfl)
      have h7 : L 7 = false := hp.fresh
      have hS : LF w w.heap.size n P D p w1 := by have h := hI.1; simp only [h12, h7, cond_false] at h; exact h
      refine ⟨hp.want rfl rfl rfl e84, 19, #[.pointer (some ⟨w.heap.size, 0, none⟩), .int .i64 k, .int .i64 3], ?_, ?_⟩
      · clear hp
        go_simp
      · refine (lf_flip hS k x hx.out hkl).mono ?_
        rintro e w' ⟨rfl, hS2, hK⟩
        exact ⟨_, rfl, rfl, hK.mono (fun i _ => hlow i), (by simp only [List.length_cons, List.length_nil, Nat.reduceAdd, (show Free.upd L 7 12 = false from h12), (show Free.upd L 7 7 = true from rfl), cond_true, cond_false]; exact hS2), Nat.le_trans hI.2 hK.size⟩
    refine Free.Seq2.val ?_ (fun _ => Kept.refl _ _) (fun _ _ h => h) (fun a w1 L hI hp => ?_) ?_
    rotate_left
    · have e84 := hp.backV 4 3 rfl rfl rfl rfl rfl; have e87 := hp.backV 7 0 rfl rfl rfl rfl rfl
      refine ⟨hp.want rfl rfl rfl e84, ?_⟩
      clear hp
      go_simp
      rfl
    refine Free.Seq2.val ?_ (fun _ => Kept.refl _ _) (fun _ _ h => h) (fun a w1 L hI hp => ?_) ?_
    rotate_left
    · have e84 := hp.backV 4 4 rfl rfl rfl rfl rfl; have e88 := hp.backV 8 0 rfl rfl rfl rfl rfl
      refine ⟨hp.want rfl rfl rfl e84, ?_⟩
      clear hp
      go_simp
      rfl
    refine Free.Seq2.val ?_ (fun _ => Kept.refl _ _) (fun _ _ h => h) (fun a w1 L hI hp => ?_) ?_
    rotate_left
    · have e89 := hp.backV 9 0 rfl rfl rfl rfl rfl; have e7 := hp.slotV 7 (by kernel_rfl) rfl; simp at e7
      refine ⟨hp.want rfl rfl rfl e89, ?_⟩
      clear hp
      go_simp
      rfl
    refine Free.Seq2.val ?_ (fun _ => Kept.refl _ _) (fun _ _ h => h) (fun a w1 L hI hp => ?_) ?_
    rotate_left
    · have e89 := hp.backV 9 1 rfl rfl rfl rfl rfl; have e9 := hp.slotV 9 (by kernel_rfl) rfl; simp at e9
      refine ⟨hp.want rfl rfl rfl e89, ?_⟩
      clear hp
      go_simp
      rfl
    refine Free.Seq2.call (T := Free.eqF (.int .i64 0)) (fun _ _ _ h _ => h) (fun a w1 L hI hp => ?_) ?_
    · have e89 := hp.backV 9 2 rfl rfl rfl rfl rfl; have e90 := hp.backV 10 1 rfl rfl rfl rfl rfl; have e91 := hp.backV 11 0 rfl rfl rfl rfl rfl
      have h12 : L 12 = false := hp.fresh
      have h7 : L 7 = true := hp.did 7 40 (by kernel_rfl)
      have hS : LF w w.heap.size n P D (p.set k (x ^^^ 3)) w1 := by have h := hI.1; simp only [h12, h7, cond_true, cond_false] at h; exact h
      refine ⟨hp.want rfl rfl rfl e89, 19, #[.pointer (some ⟨w.heap.size, 0, none⟩), .int .i64 k, .int .i64 3], ?_, ?_⟩
      · clear hp
        go_simp
      · refine (lf_flip hS k (x ^^^ 3) hx2.out hkl).mono ?_
        rintro e w' ⟨rfl, hS2, hK⟩
        exact ⟨_, rfl, rfl, hK.mono (fun i _ => hlow i), (by simp only [List.length_cons, List.length_nil, Nat.reduceAdd, (show Free.upd L 12 12 = true from rfl), cond_true]; exact (by rw [flip_flip p k x 3 hx.out] at hS2; exact hS2)), Nat.le_trans hI.2 hK.size⟩
    refine Free.Seq2.val ?_ (fun _ => Kept.refl _ _) (fun _ _ h => h) (fun a w1 L hI hp => ?_) ?_
    rotate_left
    · have e89 := hp.backV 9 3 rfl rfl rfl rfl rfl; have e92 := hp.backV 12 0 rfl rfl rfl rfl rfl
      refine ⟨hp.want rfl rfl rfl e89, ?_⟩
      clear hp
      go_simp
      rfl
    refine Free.Seq2.val ?_ (fun _ => Kept.refl _ _) (fun _ _ h => h) (fun a w1 L hI hp => ?_) ?_
    rotate_left
    · have e84 := hp.backV 4 9 rfl rfl rfl rfl rfl; have e89 := hp.backV 9 4 rfl rfl rfl rfl rfl; have e93 := hp.backV 13 0 rfl rfl rfl rfl rfl
      refine ⟨hp.want rfl rfl rfl e84, ?_⟩
      clear hp
      go_simp
      rfl
    refine Free.Seq2.val ?_ (fun _ => Kept.refl _ _) (fun _ _ h => h) (fun a w1 L hI hp => ?_) ?_
    rotate_left
    · have e84 := hp.backV 4 10 rfl rfl rfl rfl rfl; have e94 := hp.backV 14 0 rfl rfl rfl rfl rfl
      refine ⟨hp.want rfl rfl rfl e84, ?_⟩
      clear hp
      go_simp
      rfl
    refine Free.Seq2.val ?_ (fun _ => Kept.refl _ _) (fun _ _ h => h) (fun a w1 L hI hp => ?_) ?_
    rotate_left
    · have e95 := hp.backV 15 0 rfl rfl rfl rfl rfl; have e7 := hp.slotV 7 (by kernel_rfl) rfl; simp at e7
      refine ⟨hp.want rfl rfl rfl e95, ?_⟩
      clear hp
      go_simp
      rfl
    refine Free.Seq2.call (T := Made w3 n p) (fun v w w2 h hk => h.mono _ _ _ hk) (fun a w1 L hI hp => ?_) ?_
    · have e95 := hp.backV 15 1 rfl rfl rfl rfl rfl; have e96 := hp.backV 16 0 rfl rfl rfl rfl rfl
      have h12 : L 12 = true := hp.did 12 40 (by kernel_rfl)
      have hS : LF w w.heap.size n P D p w1 := by have h := hI.1; simp only [h12, cond_true] at h; exact h
      refine ⟨hp.want rfl rfl rfl e95, 15, #[.pointer (some ⟨w.heap.size, 0, none⟩)], ?_, ?_⟩
      · clear hp
        go_simp
      · refine (lf_bytes hS (by omega)).mono ?_
        rintro e w' ⟨A1, c1, rfl, hr, hA1, hS2, hb1⟩
        exact ⟨_, rfl, ⟨_, _, rfl, hr, fun b off e => Nat.le_trans hI.2 (hA1 b off e)⟩, Kept.all hb1, (by simp only [List.length_cons, List.length_nil, Nat.reduceAdd, (show Free.upd L 17 12 = true from h12), cond_true]; exact hS2), Nat.le_trans hI.2 hb1.size⟩
    refine Free.Seq2.val ?_ (fun _ => Kept.refl _ _) (fun _ _ h => h) (fun a w1 L hI hp => ?_) ?_
    rotate_left
    · have e95 := hp.backV 15 2 rfl rfl rfl rfl rfl
      obtain ⟨A1, c1, e97, hr, _⟩ := hp.back 17 0 rfl rfl rfl rfl rfl
      have hc := hr.string (P := Try.prog) 28 9 5 Try.underlying28 Try.underlying5 Try.underlying9
      refine ⟨hp.want rfl rfl rfl e95, ?_⟩
      clear hp
      go_simp
      rfl
    refine Free.Seq2.val ?_ (fun _ => Kept.refl _ _) (fun _ _ h => h) (fun a w1 L hI hp => ?_) ?_
    rotate_left
    · have e95 := hp.backV 15 3 rfl rfl rfl rfl rfl; have e0 := hp.slotV 0 (by kernel_rfl) rfl; simp at e0
      refine ⟨hp.want rfl rfl rfl e95, ?_⟩
      clear hp
      go_simp
      rfl
    refine Free.Seq2.val ?_ (fun _ => Kept.refl _ _) (fun _ _ h => h) (fun a w1 L hI hp => ?_) ?_
    rotate_left
    · have e95 := hp.backV 15 4 rfl rfl rfl rfl rfl; have e99 := hp.backV 19 0 rfl rfl rfl rfl rfl
      have h12 : L 12 = true := hp.did 12 40 (by kernel_rfl)
      have hS : LF w w.heap.size n P D p w1 := by have h := hI.1; simp only [h12, cond_true] at h; exact h
      have hc := (HR.out.below hS.low).string (P := Try.prog) 28 9 5 Try.underlying28 Try.underlying5 Try.underlying9
      refine ⟨hp.want rfl rfl rfl e95, ?_⟩
      clear hp
      go_simp
      rfl
    refine Free.Seq2.val ?_ (fun _ => Kept.refl _ _) (fun _ _ h => h) (fun a w1 L hI hp => ?_) ?_
    rotate_left
    · have e95 := hp.backV 15 5 rfl rfl rfl rfl rfl; have e98 := hp.backV 18 2 rfl rfl rfl rfl rfl; have e100 := hp.backV 20 0 rfl rfl rfl rfl rfl
      refine ⟨hp.want rfl rfl rfl e95, ?_⟩
      clear hp
      go_simp
      rfl
    refine Free.Seq2.val ?_ (fun _ => Kept.refl _ _) (fun _ _ h => h) (fun a w1 L hI hp => ?_) ?_
    rotate_left
    · have e84 := hp.backV 4 17 rfl rfl rfl rfl rfl; have e95 := hp.backV 15 6 rfl rfl rfl rfl rfl; have e101 := hp.backV 21 0 rfl rfl rfl rfl rfl
      refine ⟨hp.want rfl rfl rfl e84, ?_⟩
      clear hp
      go_simp
      rfl
    refine Free.Seq2.val ?_ (fun _ => Kept.refl _ _) (fun _ _ h => h) (fun a w1 L hI hp => ?_) ?_
    rotate_left
    · have e84 := hp.backV 4 18 rfl rfl rfl rfl rfl; have e102 := hp.backV 22 0 rfl rfl rfl rfl rfl
      refine ⟨Free.want_none rfl, ?_⟩
      clear hp
      go_simp
      rfl
    refine Free.Seq2.done (by simp) (fun wz L hIz hLz => ?_)
    simp only [List.reverse_cons, List.reverse_nil, List.nil_append, List.cons_append, Free.All, Free.eqF, forall_eq]
    rintro vB2 -
    simp only [Free.putL, Act.put, List.setIfInBounds_toArray, List.set_cons_zero, List.set_cons_succ]
    have HS4 := Lib.hid (show LS w w.heap.size n p wz from by have h := hIz.1; rw [hLz 12 (by decide)] at h; exact ⟨P, D, h⟩)
    clear hIz hLz
    obtain ⟨w4, hw4⟩ : ∃ w4, w4 = wz := ⟨_, rfl⟩
    simp only [← hw4] at HS4 ⊢
    clear hw4
    have hglt4 := HS4.out.glt
    have b1 : (k : Int) ≤ (n : Int) := by omega
    have b2 : (k : Int) + (m : Int) ≤ (n : Int) := by omega
    have b3 : (0 : Int) ≤ (k : Int) + (m : Int) := by omega
    have b4 : k ≤ c := by have := HR.out.cap; omega
    have e1 : ((k : Int) + (m : Int)).toNat = k + m := by omega
    have hw2 : IntKind.i64.wrap ((k : Int) + (m : Int)) = (k : Int) + (m : Int) := IntWalk.i64_in _ ⟨by omega, by omega⟩
    go_wp2_with fail
    refine Free.wp_seq2 (I := fun L w' => cond (L 3) (LS w w.heap.size (n - m) (p.take k ++ p.drop (k + m)) w') (LS w w.heap.size n p w') ∧ w4.heap.size ≤ w'.heap.size) (Gr := fun x y => Kept (fun i => i < w4.heap.size) x y) (by kernel_rfl) (by kernel_rfl) ⟨HS4.out.grow ((Below.refl _ _).drew), Nat.le_refl _⟩ ?_
    refine Free.Seq2.val ?_ (fun _ => Kept.refl _ _) (fun _ _ h => h) (fun a w1 L hI hp => ?_) ?_
    rotate_left
    · have e7 := hp.slotV 7 (by kernel_rfl) rfl; simp at e7
      refine ⟨Free.want_none rfl, ?_⟩
      clear hp
      go_simp
      rfl
    refine Free.Seq2.val ?_ (fun _ => Kept.refl _ _) (fun _ _ h => h) (fun a w1 L hI hp => ?_) ?_
    rotate_left
    · have e9 := hp.slotV 9 (by kernel_rfl) rfl; simp at e9
      refine ⟨Free.want_none rfl, ?_⟩
      clear hp
      go_simp
      rfl
    refine Free.Seq2.val ?_ (fun _ => Kept.refl _ _) (fun _ _ h => h) (fun a w1 L hI hp => ?_) ?_
    rotate_left
    · have e10 := hp.slotV 10 (by kernel_rfl) rfl; simp at e10
      refine ⟨Free.want_none rfl, ?_⟩
      clear hp
      go_simp
      rfl
    refine Free.Seq2.call (T := Free.eqF (.int .i64 0)) (fun _ _ _ h _ => h) (fun a w1 L hI hp => ?_) ?_
    · have e104 := hp.backV 0 2 rfl rfl rfl rfl rfl; have e105 := hp.backV 1 1 rfl rfl rfl rfl rfl; have e106 := hp.backV 2 0 rfl rfl rfl rfl rfl
      have h3 : L 3 = false := hp.fresh
      have hS : LS w w.heap.size n p w1 := by have h := hI.1; simp only [h3, cond_false] at h; exact h
      refine ⟨Free.want_none rfl, 18, #[.pointer (some ⟨w.heap.size, 0, none⟩), .int .i64 k, .int .i64 m], ?_, ?_⟩
      · clear hp
        go_simp
      · refine (ls_drop hS (by omega) k m hmn).mono ?_
        rintro e w' ⟨rfl, hS2, hK⟩
        exact ⟨_, rfl, rfl, hK.mono (fun i _ e => by rw [e]; exact hglt4), (by simp only [List.length_cons, List.length_nil, Nat.reduceAdd, (show Free.upd L 3 3 = true from rfl), cond_true]; exact hS2), Nat.le_trans hI.2 hK.size⟩
    refine Free.Seq2.val ?_ (fun _ => Kept.refl _ _) (fun _ _ h => h) (fun a w1 L hI hp => ?_) ?_
    rotate_left
    · have e107 := hp.backV 3 0 rfl rfl rfl rfl rfl
      refine ⟨Free.want_none rfl, ?_⟩
      clear hp
      go_simp
      rfl
    refine Free.Seq2.val ?_ (fun _ => Kept.refl _ _) (fun _ _ h => h) (fun a w1 L hI hp => ?_) ?_
    rotate_left
    · have e108 := hp.backV 4 0 rfl rfl rfl rfl rfl
      refine ⟨Free.want_none rfl, ?_⟩
      clear hp
      go_simp
      rfl
    refine Free.Seq2.val ?_ (fun _ => Kept.refl _ _) (fun _ _ h => h) (fun a w1 L hI hp => ?_) ?_
    rotate_left
    · have e109 := hp.backV 5 0 rfl rfl rfl rfl rfl; have e7 := hp.slotV 7 (by kernel_rfl) rfl; simp at e7
      refine ⟨hp.want rfl rfl rfl e109, ?_⟩
      clear hp
      go_simp
      rfl
    refine Free.Seq2.call (T := Made w4 (n - m) (p.take k ++ p.drop (k + m))) (fun v w w2 h hk => h.mono _ _ _ hk) (fun a w1 L hI hp => ?_) ?_
    · have e109 := hp.backV 5 1 rfl rfl rfl rfl rfl; have e110 := hp.backV 6 0 rfl rfl rfl rfl rfl
      have h3 : L 3 = true := hp.did 3 40 (by kernel_rfl)
      have hS : LS w w.heap.size (n - m) (p.take k ++ p.drop (k + m)) w1 := by have h := hI.1; simp only [h3, cond_true] at h; exact h
      refine ⟨hp.want rfl rfl rfl e109, 15, #[.pointer (some ⟨w.heap.size, 0, none⟩)], ?_, ?_⟩
      · clear hp
        go_simp
      · refine (ls_bytes hS (by omega)).mono ?_
        rintro e w' ⟨A1, c1, rfl, hr, hA1, hS2, hb1⟩
        exact ⟨_, rfl, ⟨_, _, rfl, hr, fun b off e => Nat.le_trans hI.2 (hA1 b off e)⟩, Kept.all hb1, (by simp only [List.length_cons, List.length_nil, Nat.reduceAdd, (show Free.upd L 7 3 = true from h3), cond_true]; exact hS2), Nat.le_trans hI.2 hb1.size⟩
    refine Free.Seq2.val ?_ (fun _ => Kept.refl _ _) (fun _ _ h => h) (fun a w1 L hI hp => ?_) ?_
    rotate_left
    · have e109 := hp.backV 5 2 rfl rfl rfl rfl rfl
      obtain ⟨A1, c1, e111, hr, _⟩ := hp.back 7 0 rfl rfl rfl rfl rfl
      have hc := hr.string (P := Try.prog) 28 9 5 Try.underlying28 Try.underlying5 Try.underlying9
      refine ⟨hp.want rfl rfl rfl e109, ?_⟩
      clear hp
      go_simp
      rfl
    refine Free.Seq2.val ?_ (fun _ => Kept.refl _ _) (fun _ _ h => h) (fun a w1 L hI hp => ?_) ?_
    rotate_left
    · have e109 := hp.backV 5 3 rfl rfl rfl rfl rfl; have e0 := hp.slotV 0 (by kernel_rfl) rfl; simp at e0
      refine ⟨hp.want rfl rfl rfl e109, ?_⟩
      clear hp
      go_simp
      rfl
    refine Free.Seq2.val ?_ (fun _ => Kept.refl _ _) (fun _ _ h => h) (fun a w1 L hI hp => ?_) ?_
    rotate_left
    · have e109 := hp.backV 5 4 rfl rfl rfl rfl rfl; have e9 := hp.slotV 9 (by kernel_rfl) rfl; simp at e9
      refine ⟨hp.want rfl rfl rfl e109, ?_⟩
      clear hp
      go_simp
      rfl
    refine Free.Seq2.val ?_ (fun _ => Kept.refl _ _) (fun _ _ h => h) (fun a w1 L hI hp => ?_) ?_
    rotate_left
    · have e109 := hp.backV 5 5 rfl rfl rfl rfl rfl; have e113 := hp.backV 9 1 rfl rfl rfl rfl rfl; have e114 := hp.backV 10 0 rfl rfl rfl rfl rfl
      refine ⟨hp.want rfl rfl rfl e109, ?_⟩
      clear hp
      go_simp
      rfl
    refine Free.Seq2.val ?_ (fun _ => Kept.refl _ _) (fun _ _ h => h) (fun a w1 L hI hp => ?_) ?_
    rotate_left
    · have e109 := hp.backV 5 6 rfl rfl rfl rfl rfl; have e115 := hp.backV 11 0 rfl rfl rfl rfl rfl
      have h3 : L 3 = true := hp.did 3 40 (by kernel_rfl)
      have hS : LS w w.heap.size (n - m) (p.take k ++ p.drop (k + m)) w1 := by have h := hI.1; simp only [h3, cond_true] at h; exact h
      have hc := ((HR.out.below hS.low).take hkn).string (P := Try.prog) 28 9 5 Try.underlying28 Try.underlying5 Try.underlying9
      refine ⟨hp.want rfl rfl rfl e109, ?_⟩
      clear hp
      go_simp
      rfl
    refine Free.Seq2.val ?_ (fun _ => Kept.refl _ _) (fun _ _ h => h) (fun a w1 L hI hp => ?_) ?_
    rotate_left
    · have e109 := hp.backV 5 7 rfl rfl rfl rfl rfl; have e0 := hp.slotV 0 (by kernel_rfl) rfl; simp at e0
      refine ⟨hp.want rfl rfl rfl e109, ?_⟩
      clear hp
      go_simp
      rfl
    refine Free.Seq2.val ?_ (fun _ => Kept.refl _ _) (fun _ _ h => h) (fun a w1 L hI hp => ?_) ?_
    rotate_left
    · have e109 := hp.backV 5 8 rfl rfl rfl rfl rfl; have e9 := hp.slotV 9 (by kernel_rfl) rfl; simp at e9
      refine ⟨hp.want rfl rfl rfl e109, ?_⟩
      clear hp
      go_simp
      rfl
    refine Free.Seq2.val ?_ (fun _ => Kept.refl _ _) (fun _ _ h => h) (fun a w1 L hI hp => ?_) ?_
    rotate_left
    · have e109 := hp.backV 5 9 rfl rfl rfl rfl rfl; have e10 := hp.slotV 10 (by kernel_rfl) rfl; simp at e10
      refine ⟨hp.want rfl rfl rfl e109, ?_⟩
      clear hp
      go_simp
      rfl
    refine Free.Seq2.val ?_ (fun _ => Kept.refl _ _) (fun _ _ h => h) (fun a w1 L hI hp => ?_) ?_
    rotate_left
    · have e109 := hp.backV 5 10 rfl rfl rfl rfl rfl; have e118 := hp.backV 14 1 rfl rfl rfl rfl rfl; have e119 := hp.backV 15 0 rfl rfl rfl rfl rfl
      refine ⟨hp.want rfl rfl rfl e109, ?_⟩
      clear hp
      go_simp
      rfl
    refine Free.Seq2.val ?_ (fun _ => Kept.refl _ _) (fun _ _ h => h) (fun a w1 L hI hp => ?_) ?_
    rotate_left
    · have e109 := hp.backV 5 11 rfl rfl rfl rfl rfl; have e117 := hp.backV 13 3 rfl rfl rfl rfl rfl; have e120 := hp.backV 16 0 rfl rfl rfl rfl rfl
      refine ⟨hp.want rfl rfl rfl e109, ?_⟩
      clear hp
      go_simp
      rfl
    refine Free.Seq2.val ?_ (fun _ => Kept.refl _ _) (fun _ _ h => h) (fun a w1 L hI hp => ?_) ?_
    rotate_left
    · have e109 := hp.backV 5 12 rfl rfl rfl rfl rfl; have e121 := hp.backV 17 0 rfl rfl rfl rfl rfl
      have h3 : L 3 = true := hp.did 3 40 (by kernel_rfl)
      have hS : LS w w.heap.size (n - m) (p.take k ++ p.drop (k + m)) w1 := by have h := hI.1; simp only [h3, cond_true] at h; exact h
      have hc := ((HR.out.below hS.low).drop hmn).string (P := Try.prog) 28 9 5 Try.underlying28 Try.underlying5 Try.underlying9
      refine ⟨hp.want rfl rfl rfl e109, ?_⟩
      clear hp
      go_simp
      rfl
    refine Free.Seq2.val ?_ (fun _ => Kept.refl _ _) (fun _ _ h => h) (fun a w1 L hI hp => ?_) ?_
    rotate_left
    · have e109 := hp.backV 5 13 rfl rfl rfl rfl rfl; have e116 := hp.backV 12 6 rfl rfl rfl rfl rfl; have e122 := hp.backV 18 0 rfl rfl rfl rfl rfl
      have ha := add_strings (P := Try.prog) w1 (p.take k) (p.drop (k + m)) (by have := hlen.out; simp; omega)
      refine ⟨hp.want rfl rfl rfl e109, ?_⟩
      clear hp
      go_simp
      rfl
    refine Free.Seq2.val ?_ (fun _ => Kept.refl _ _) (fun _ _ h => h) (fun a w1 L hI hp => ?_) ?_
    rotate_left
    · have e109 := hp.backV 5 14 rfl rfl rfl rfl rfl; have e112 := hp.backV 8 11 rfl rfl rfl rfl rfl; have e123 := hp.backV 19 0 rfl rfl rfl rfl rfl
      refine ⟨hp.want rfl rfl rfl e109, ?_⟩
      clear hp
      go_simp
      rfl
    refine Free.Seq2.val ?_ (fun _ => Kept.refl _ _) (fun _ _ h => h) (fun a w1 L hI hp => ?_) ?_
    rotate_left
    · have e109 := hp.backV 5 15 rfl rfl rfl rfl rfl; have e124 := hp.backV 20 0 rfl rfl rfl rfl rfl
      refine ⟨Free.want_none rfl, ?_⟩
      clear hp
      go_simp
      rfl
    refine Free.Seq2.val ?_ (fun _ => Kept.refl _ _) (fun _ _ h => h) (fun a w1 L hI hp => ?_) ?_
    rotate_left
    · have e125 := hp.backV 21 0 rfl rfl rfl rfl rfl
      refine ⟨Free.want_none rfl, ?_⟩
      clear hp
      go_simp
      rfl
    refine Free.Seq2.call (T := Free.eqF (.bool true)) (fun _ _ _ h _ => h) (fun a w1 L hI hp => ?_) ?_
    · have e126 := hp.backV 22 0 rfl rfl rfl rfl rfl
      have h3 : L 3 = true := hp.did 3 40 (by kernel_rfl)
      have hS : LS w w.heap.size (n - m) (p.take k ++ p.drop (k + m)) w1 := by have h := hI.1; simp only [h3, cond_true] at h; exact h
      refine ⟨hp.want rfl rfl rfl e126, 8, #[], ?_, ?_⟩
      · clear hp
        go_simp
      · refine (awake_any _).mono ?_
        rintro e w' ⟨rfl, hb1⟩
        exact ⟨_, rfl, rfl, Kept.all hb1, (by simp only [List.length_cons, List.length_nil, Nat.reduceAdd, (show Free.upd L 23 3 = true from h3), cond_true]; exact hS.grow hb1), Nat.le_trans hI.2 hb1.size⟩
    refine Free.Seq2.val ?_ (fun _ => Kept.refl _ _) (fun _ _ h => h) (fun a w1 L hI hp => ?_) ?_
    rotate_left
    · have e126 := hp.backV 22 1 rfl rfl rfl rfl rfl; have e127 := hp.backV 23 0 rfl rfl rfl rfl rfl
      refine ⟨Free.want_none rfl, ?_⟩
      clear hp
      go_simp
      rfl
    refine Free.Seq2.val ?_ (fun _ => Kept.refl _ _) (fun _ _ h => h) (fun a w1 L hI hp => ?_) ?_
    rotate_left
    · have e128 := hp.backV 24 0 rfl rfl rfl rfl rfl
      refine ⟨Free.want_none rfl, ?_⟩
      clear hp
      go_simp
      rfl
    refine Free.Seq2.done (by simp) (fun wz L hIz hLz => ?_)
    simp only [List.reverse_cons, List.reverse_nil, List.nil_append, List.cons_append, Free.All, Free.eqF, forall_eq]
    rintro vB3 -
    simp only [Free.putL, Act.put, List.setIfInBounds_toArray, List.set_cons_zero, List.set_cons_succ]
    have hlo : Below w.heap.size w wz := by have h := hIz.1; rw [hLz 3 (by decide)] at h; exact LS.low h
    clear hIz hLz
    generalize (if c = k + m then A else Option.map (fun x => x.add (k + m)) A) = z1
    go_wp2
    go_ret
    exact ⟨rfl, hlo⟩
  · have t2 : decide ((k : Int) < n) = false := by simp; omega
    refine Free.wp_seq (I := fun w' => LS w w.heap.size n p w') (Gr := fun _ _ => True) (by kernel_rfl) (by kernel_rfl) (HS3.out.grow ((Below.refl _ _).drew)) ?_
    refine Free.Seq.val ?_ (fun _ => trivial) (fun a w1 hI hp => ?_) ?_
    rotate_left
    · have e9 := hp.slotV 9 (by kernel_rfl) rfl; simp at e9
      refine ⟨Free.want_none rfl, ?_⟩
      clear hp
      go_simp
      rfl
    refine Free.Seq.val ?_ (fun _ => trivial) (fun a w1 hI hp => ?_) ?_
    rotate_left
    · have e0 := hp.slotV 0 (by kernel_rfl) rfl; simp at e0
      refine ⟨Free.want_none rfl, ?_⟩
      clear hp
      go_simp
      rfl
    refine Free.Seq.val ?_ (fun _ => trivial) (fun a w1 hI hp => ?_) ?_
    rotate_left
    · have e81 := hp.backV 1 0 rfl rfl rfl rfl rfl
      refine ⟨Free.want_none rfl, ?_⟩
      clear hp
      go_simp
      rfl
    refine Free.Seq.val ?_ (fun _ => trivial) (fun a w1 hI hp => ?_) ?_
    rotate_left
    · have e80 := hp.backV 0 2 rfl rfl rfl rfl rfl; have e82 := hp.backV 2 0 rfl rfl rfl rfl rfl
      refine ⟨Free.want_none rfl, ?_⟩
      clear hp
      go_simp
      rfl
    refine Free.Seq.val ?_ (fun _ => trivial) (fun a w1 hI hp => ?_) ?_
    rotate_left
    · have e83 := hp.backV 3 0 rfl rfl rfl rfl rfl
      refine ⟨Free.want_none rfl, ?_⟩
      clear hp
      go_simp
      rfl
    refine Free.Seq.pass (fun a w1 hI hp => hp.pass rfl rfl rfl (hp.backV 4 0 rfl rfl rfl rfl rfl)) ?_
    refine Free.Seq.pass (fun a w1 hI hp => hp.pass rfl rfl rfl (hp.backV 4 1 rfl rfl rfl rfl rfl)) ?_
    refine Free.Seq.pass (fun a w1 hI hp => hp.pass rfl rfl rfl (hp.backV 4 2 rfl rfl rfl rfl rfl)) ?_
    refine Free.Seq.pass (fun a w1 hI hp => hp.pass rfl rfl rfl (hp.backV 4 3 rfl rfl rfl rfl rfl)) ?_
    refine Free.Seq.pass (fun a w1 hI hp => hp.pass rfl rfl rfl (hp.backV 4 4 rfl rfl rfl rfl rfl)) ?_
    refine Free.Seq.pass (fun a w1 hI hp => hp.passU rfl rfl rfl (hp.backV 9 0 rfl rfl rfl rfl rfl)) ?_
    refine Free.Seq.pass (fun a w1 hI hp => hp.passU rfl rfl rfl (hp.backV 9 1 rfl rfl rfl rfl rfl)) ?_
    refine Free.Seq.pass (fun a w1 hI hp => hp.passU rfl rfl rfl (hp.backV 9 2 rfl rfl rfl rfl rfl)) ?_
    refine Free.Seq.pass (fun a w1 hI hp => hp.passU rfl rfl rfl (hp.backV 9 3 rfl rfl rfl rfl rfl)) ?_
    refine Free.Seq.pass (fun a w1 hI hp => hp.pass rfl rfl rfl (hp.backV 4 9 rfl rfl rfl rfl rfl)) ?_
    refine Free.Seq.pass (fun a w1 hI hp => hp.pass rfl rfl rfl (hp.backV 4 10 rfl rfl rfl rfl rfl)) ?_
    refine Free.Seq.pass (fun a w1 hI hp => hp.passU rfl rfl rfl (hp.backV 15 0 rfl rfl rfl rfl rfl)) ?_
    refine Free.Seq.pass (fun a w1 hI hp => hp.passU rfl rfl rfl (hp.backV 15 1 rfl rfl rfl rfl rfl)) ?_
    refine Free.Seq.pass (fun a w1 hI hp => hp.passU rfl rfl rfl (hp.backV 15 2 rfl rfl rfl rfl rfl)) ?_
    refine Free.Seq.pass (fun a w1 hI hp => hp.passU rfl rfl rfl (hp.backV 15 3 rfl rfl rfl rfl rfl)) ?_
    refine Free.Seq.pass (fun a w1 hI hp => hp.passU rfl rfl rfl (hp.backV 15 4 rfl rfl rfl rfl rfl)) ?_
    refine Free.Seq.pass (fun a w1 hI hp => hp.passU rfl rfl rfl (hp.backV 15 5 rfl rfl rfl rfl rfl)) ?_
    refine Free.Seq.pass (fun a w1 hI hp => hp.pass rfl rfl rfl (hp.backV 4 17 rfl rfl rfl rfl rfl)) ?_
    refine Free.Seq.val ?_ (fun _ => trivial) (fun a w1 hI hp => ?_) ?_
    rotate_left
    · have e84 := hp.backV 4 18 rfl rfl rfl rfl rfl; have e102 := hp.backV 22 0 rfl rfl rfl rfl rfl
      refine ⟨Free.want_none rfl, ?_⟩
      clear hp
      go_simp
      rfl
    refine Free.Seq.done (by simp) (fun wz hIz => ?_)
    simp only [List.reverse_cons, List.reverse_nil, List.nil_append, List.cons_append, Free.All, Free.eqF, forall_eq]
    skip
    simp only [Free.putL, Act.put, List.setIfInBounds_toArray, List.set_cons_zero, List.set_cons_succ]
    have HS4 := Lib.hid hIz
    clear hIz
    obtain ⟨w4, hw4⟩ : ∃ w4, w4 = wz := ⟨_, rfl⟩
    simp only [← hw4] at HS4 ⊢
    clear hw4
    have hglt4 := HS4.out.glt
    have b1 : (k : Int) ≤ (n : Int) := by omega
    have b2 : (k : Int) + (m : Int) ≤ (n : Int) := by omega
    have b3 : (0 : Int) ≤ (k : Int) + (m : Int) := by omega
    have b4 : k ≤ c := by have := HR.out.cap; omega
    have e1 : ((k : Int) + (m : Int)).toNat = k + m := by omega
    have hw2 : IntKind.i64.wrap ((k : Int) + (m : Int)) = (k : Int) + (m : Int) := IntWalk.i64_in _ ⟨by omega, by omega⟩
    go_wp2_with fail
    refine Free.wp_seq2 (I := fun L w' => cond (L 3) (LS w w.heap.size (n - m) (p.take k ++ p.drop (k + m)) w') (LS w w.heap.size n p w') ∧ w4.heap.size ≤ w'.heap.size) (Gr := fun x y => Kept (fun i => i < w4.heap.size) x y) (by kernel_rfl) (by kernel_rfl) ⟨HS4.out.grow ((Below.refl _ _).drew), Nat.le_refl _⟩ ?_
    refine Free.Seq2.val ?_ (fun _ => Kept.refl _ _) (fun _ _ h => h) (fun a w1 L hI hp => ?_) ?_
    rotate_left
    · have e7 := hp.slotV 7 (by kernel_rfl) rfl; simp at e7
      refine ⟨Free.want_none rfl, ?_⟩
      clear hp
      go_simp
      rfl
    refine Free.Seq2.val ?_ (fun _ => Kept.refl _ _) (fun _ _ h => h) (fun a w1 L hI hp => ?_) ?_
    rotate_left
    · have e9 := hp.slotV 9 (by kernel_rfl) rfl; simp at e9
      refine ⟨Free.want_none rfl, ?_⟩
      clear hp
      go_simp
      rfl
    refine Free.Seq2.val ?_ (fun _ => Kept.refl _ _) (fun _ _ h => h) (fun a w1 L hI hp => ?_) ?_
    rotate_left
    · have e10 := hp.slotV 10 (by kernel_rfl) rfl; simp at e10
      refine ⟨Free.want_none rfl, ?_⟩
      clear hp
      go_simp
      rfl
    refine Free.Seq2.call (T := Free.eqF (.int .i64 0)) (fun _ _ _ h _ => h) (fun a w1 L hI hp => ?_) ?_
    · have e104 := hp.backV 0 2 rfl rfl rfl rfl rfl; have e105 := hp.backV 1 1 rfl rfl rfl rfl rfl; have e106 := hp.backV 2 0 rfl rfl rfl rfl rfl
      have h3 : L 3 = false := hp.fresh
      have hS : LS w w.heap.size n p w1 := by have h := hI.1; simp only [h3, cond_false] at h; exact h
      refine ⟨Free.want_none rfl, 18, #[.pointer (some ⟨w.heap.size, 0, none⟩), .int .i64 k, .int .i64 m], ?_, ?_⟩
      · clear hp
        go_simp
      · refine (ls_drop hS (by omega) k m hmn).mono ?_
        rintro e w' ⟨rfl, hS2, hK⟩
        exact ⟨_, rfl, rfl, hK.mono (fun i _ e => by rw [e]; exact hglt4), (by simp only [List.length_cons, List.length_nil, Nat.reduceAdd, (show Free.upd L 3 3 = true from rfl), cond_true]; exact hS2), Nat.le_trans hI.2 hK.size⟩
    refine Free.Seq2.val ?_ (fun _ => Kept.refl _ _) (fun _ _ h => h) (fun a w1 L hI hp => ?_) ?_
    rotate_left
    · have e107 := hp.backV 3 0 rfl rfl rfl rfl rfl
      refine ⟨Free.want_none rfl, ?_⟩
      clear hp
      go_simp
      rfl
    refine Free.Seq2.val ?_ (fun _ => Kept.refl _ _) (fun _ _ h => h) (fun a w1 L hI hp => ?_) ?_
    rotate_left
    · have e108 := hp.backV 4 0 rfl rfl rfl rfl rfl
      refine ⟨Free.want_none rfl, ?_⟩
      clear hp
      go_simp
      rfl
    refine Free.Seq2.val ?_ (fun _ => Kept.refl _ _) (fun _ _ h => h) (fun a w1 L hI hp => ?_) ?_
    rotate_left
    · have e109 := hp.backV 5 0 rfl rfl rfl rfl rfl; have e7 := hp.slotV 7 (by kernel_rfl) rfl; simp at e7
      refine ⟨hp.want rfl rfl rfl e109, ?_⟩
      clear hp
      go_simp
      rfl
    refine Free.Seq2.call (T := Made w4 (n - m) (p.take k ++ p.drop (k + m))) (fun v w w2 h hk => h.mono _ _ _ hk) (fun a w1 L hI hp => ?_) ?_
    · have e109 := hp.backV 5 1 rfl rfl rfl rfl rfl; have e110 := hp.backV 6 0 rfl rfl rfl rfl rfl
      have h3 : L 3 = true := hp.did 3 40 (by kernel_rfl)
      have hS : LS w w.heap.size (n - m) (p.take k ++ p.drop (k + m)) w1 := by have h := hI.1; simp only [h3, cond_true] at h; exact h
      refine ⟨hp.want rfl rfl rfl e109, 15, #[.pointer (some ⟨w.heap.size, 0, none⟩)], ?_, ?_⟩
      · clear hp
        go_simp
      · refine (ls_bytes hS (by omega)).mono ?_
        rintro e w' ⟨A1, c1, rfl, hr, hA1, hS2, hb1⟩
        exact ⟨_, rfl, ⟨_, _, rfl, hr, fun b off e => Nat.le_trans hI.2 (hA1 b off e)⟩, Kept.all hb1, (by simp only [List.length_cons, List.length_nil, Nat.reduceAdd, (show Free.upd L 7 3 = true from h3), cond_true]; exact hS2), Nat.le_trans hI.2 hb1.size⟩
    refine Free.Seq2.val ?_ (fun _ => Kept.refl _ _) (fun _ _ h => h) (fun a w1 L hI hp => ?_) ?_
    rotate_left
    · have e109 := hp.backV 5 2 rfl rfl rfl rfl rfl
      obtain ⟨A1, c1, e111, hr, _⟩ := hp.back 7 0 rfl rfl rfl rfl rfl
      have hc := hr.string (P := Try.prog) 28 9 5 Try.underlying28 Try.underlying5 Try.underlying9
      refine ⟨hp.want rfl rfl rfl e109, ?_⟩
      clear hp
      go_simp
      rfl
    refine Free.Seq2.val ?_ (fun _ => Kept.refl _ _) (fun _ _ h => h) (fun a w1 L hI hp => ?_) ?_
    rotate_left
    · have e109 := hp.backV 5 3 rfl rfl rfl rfl rfl; have e0 := hp.slotV 0 (by kernel_rfl) rfl; simp at e0
      refine ⟨hp.want rfl rfl rfl e109, ?_⟩
      clear hp
      go_simp
      rfl
    refine Free.Seq2.val ?_ (fun _ => Kept.refl _ _) (fun _ _ h => h) (fun a w1 L hI hp => ?_) ?_
    rotate_left
    · have e109 := hp.backV 5 4 rfl rfl rfl rfl rfl; have e9 := hp.slotV 9 (by kernel_rfl) rfl; simp at e9
      refine ⟨hp.want rfl rfl rfl e109, ?_⟩
      clear hp
      go_simp
      rfl
    refine Free.Seq2.val ?_ (fun _ => Kept.refl _ _) (fun _ _ h => h) (fun a w1 L hI hp => ?_) ?_
    rotate_left
    · have e109 := hp.backV 5 5 rfl rfl rfl rfl rfl; have e113 := hp.backV 9 1 rfl rfl rfl rfl rfl; have e114 := hp.backV 10 0 rfl rfl rfl rfl rfl
      refine ⟨hp.want rfl rfl rfl e109, ?_⟩
      clear hp
      go_simp
      rfl
    refine Free.Seq2.val ?_ (fun _ => Kept.refl _ _) (fun _ _ h => h) (fun a w1 L hI hp => ?_) ?_
    rotate_left
    · have e109 := hp.backV 5 6 rfl rfl rfl rfl rfl; have e115 := hp.backV 11 0 rfl rfl rfl rfl rfl
      have h3 : L 3 = true := hp.did 3 40 (by kernel_rfl)
      have hS : LS w w.heap.size (n - m) (p.take k ++ p.drop (k + m)) w1 := by have h := hI.1; simp only [h3, cond_true] at h; exact h
      have hc := ((HR.out.below hS.low).take hkn).string (P := Try.prog) 28 9 5 Try.underlying28 Try.underlying5 Try.underlying9
      refine ⟨hp.want rfl rfl rfl e109, ?_⟩
      clear hp
      go_simp
      rfl
    refine Free.Seq2.val ?_ (fun _ => Kept.refl _ _) (fun _ _ h => h) (fun a w1 L hI hp => ?_) ?_
    rotate_left
    · have e109 := hp.backV 5 7 rfl rfl rfl rfl rfl; have e0 := hp.slotV 0 (by kernel_rfl) rfl; simp at e0
      refine ⟨hp.want rfl rfl rfl e109, ?_⟩
      clear hp
      go_simp
      rfl
    refine Free.Seq2.val ?_ (fun _ => Kept.refl _ _) (fun _ _ h => h) (fun a w1 L hI hp => ?_) ?_
    rotate_left
    · have e109 := hp.backV 5 8 rfl rfl rfl rfl rfl; have e9 := hp.slotV 9 (by kernel_rfl) rfl; simp at e9
      refine ⟨hp.want rfl rfl rfl e109, ?_⟩
      clear hp
      go_simp
      rfl
    refine Free.Seq2.val ?_ (fun _ => Kept.refl _ _) (fun _ _ h => h) (fun a w1 L hI hp => ?_) ?_
    rotate_left
    · have e109 := hp.backV 5 9 rfl rfl rfl rfl rfl; have e10 := hp.slotV 10 (by kernel_rfl) rfl; simp at e10
      refine ⟨hp.want rfl rfl rfl e109, ?_⟩
      clear hp
      go_simp
      rfl
    refine Free.Seq2.val ?_ (fun _ => Kept.refl _ _) (fun _ _ h => h) (fun a w1 L hI hp => ?_) ?_
    rotate_left
    · have e109 := hp.backV 5 10 rfl rfl rfl rfl rfl; have e118 := hp.backV 14 1 rfl rfl rfl rfl rfl; have e119 := hp.backV 15 0 rfl rfl rfl rfl rfl
      refine ⟨hp.want rfl rfl rfl e109, ?_⟩
      clear hp
      go_simp
      rfl
    refine Free.Seq2.val ?_ (fun _ => Kept.refl _ _) (fun _ _ h => h) (fun a w1 L hI hp => ?_) ?_
    rotate_left
    · have e109 := hp.backV 5 11 rfl rfl rfl rfl rfl; have e117 := hp.backV 13 3 rfl rfl rfl rfl rfl; have e120 := hp.backV 16 0 rfl rfl rfl rfl rfl
      refine ⟨hp.want rfl rfl rfl e109, ?_⟩
      clear hp
      go_simp
      rfl
    refine Free.Seq2.val ?_ (fun _ => Kept.refl _ _) (fun _ _ h => h) (fun a w1 L hI hp => ?_) ?_
    rotate_left
    · have e109 := hp.backV 5 12 rfl rfl rfl rfl rfl; have e121 := hp.backV 17 0 rfl rfl rfl rfl rfl
      have h3 : L 3 = true := hp.did 3 40 (by kernel_rfl)
      have hS : LS w w.heap.size (n - m) (p.take k ++ p.drop (k + m)) w1 := by have h := hI.1; simp only [h3, cond_true] at h; exact h
      have hc := ((HR.out.below hS.low).drop hmn).string (P := Try.prog) 28 9 5 Try.underlying28 Try.underlying5 Try.underlying9
      refine ⟨hp.want rfl rfl rfl e109, ?_⟩
      clear hp
      go_simp
      rfl
    refine Free.Seq2.val ?_ (fun _ => Kept.refl _ _) (fun _ _ h => h) (fun a w1 L hI hp => ?_) ?_
    rotate_left
    · have e109 := hp.backV 5 13 rfl rfl rfl rfl rfl; have e116 := hp.backV 12 6 rfl rfl rfl rfl rfl; have e122 := hp.backV 18 0 rfl rfl rfl rfl rfl
      have ha := add_strings (P := Try.prog) w1 (p.take k) (p.drop (k + m)) (by have := hlen.out; simp; omega)
      refine ⟨hp.want rfl rfl rfl e109, ?_⟩
      clear hp
      go_simp
      rfl
    refine Free.Seq2.val ?_ (fun _ => Kept.refl _ _) (fun _ _ h => h) (fun a w1 L hI hp => ?_) ?_
    rotate_left
    · have e109 := hp.backV 5 14 rfl rfl rfl rfl rfl; have e112 := hp.backV 8 11 rfl rfl rfl rfl rfl; have e123 := hp.backV 19 0 rfl rfl rfl rfl rfl
      refine ⟨hp.want rfl rfl rfl e109, ?_⟩
      clear hp
      go_simp
      rfl
    refine Free.Seq2.val ?_ (fun _ => Kept.refl _ _) (fun _ _ h => h) (fun a w1 L hI hp => ?_) ?_
    rotate_left
    · have e109 := hp.backV 5 15 rfl rfl rfl rfl rfl; have e124 := hp.backV 20 0 rfl rfl rfl rfl rfl
      refine ⟨Free.want_none rfl, ?_⟩
      clear hp
      go_simp
      rfl
    refine Free.Seq2.val ?_ (fun _ => Kept.refl _ _) (fun _ _ h => h) (fun a w1 L hI hp => ?_) ?_
    rotate_left
    · have e125 := hp.backV 21 0 rfl rfl rfl rfl rfl
      refine ⟨Free.want_none rfl, ?_⟩
      clear hp
      go_simp
      rfl
    refine Free.Seq2.call (T := Free.eqF (.bool true)) (fun _ _ _ h _ => h) (fun a w1 L hI hp => ?_) ?_
    · have e126 := hp.backV 22 0 rfl rfl rfl rfl rfl
      have h3 : L 3 = true := hp.did 3 40 (by kernel_rfl)
      have hS : LS w w.heap.size (n - m) (p.take k ++ p.drop (k + m)) w1 := by have h := hI.1; simp only [h3, cond_true] at h; exact h
      refine ⟨hp.want rfl rfl rfl e126, 8, #[], ?_, ?_⟩
      · clear hp
        go_simp
      · refine (awake_any _).mono ?_
        rintro e w' ⟨rfl, hb1⟩
        exact ⟨_, rfl, rfl, Kept.all hb1, (by simp only [List.length_cons, List.length_nil, Nat.reduceAdd, (show Free.upd L 23 3 = true from h3), cond_true]; exact hS.grow hb1), Nat.le_trans hI.2 hb1.size⟩
    refine Free.Seq2.val ?_ (fun _ => Kept.refl _ _) (fun _ _ h => h) (fun a w1 L hI hp => ?_) ?_
    rotate_left
    · have e126 := hp.backV 22 1 rfl rfl rfl rfl rfl; have e127 := hp.backV 23 0 rfl rfl rfl rfl rfl
      refine ⟨Free.want_none rfl, ?_⟩
      clear hp
      go_simp
      rfl
    refine Free.Seq2.val ?_ (fun _ => Kept.refl _ _) (fun _ _ h => h) (fun a w1 L hI hp => ?_) ?_
    rotate_left
    · have e128 := hp.backV 24 0 rfl rfl rfl rfl rfl
      refine ⟨Free.want_none rfl, ?_⟩
      clear hp
      go_simp
      rfl
    refine Free.Seq2.done (by simp) (fun wz L hIz hLz => ?_)
    simp only [List.reverse_cons, List.reverse_nil, List.nil_append, List.cons_append, Free.All, Free.eqF, forall_eq]
    rintro vB3 -
    simp only [Free.putL, Act.put, List.setIfInBounds_toArray, List.set_cons_zero, List.set_cons_succ]
    have hlo : Below w.heap.size w wz := by have h := hIz.1; rw [hLz 3 (by decide)] at h; exact LS.low h
    clear hIz hLz
    generalize (if c = k + m then A else Option.map (fun x => x.add (k + m)) A) = z1
    go_wp2
    go_ret
    exact ⟨rfl, hlo⟩
end Go.Proofs.Ytgiboekjjnmnnaa
