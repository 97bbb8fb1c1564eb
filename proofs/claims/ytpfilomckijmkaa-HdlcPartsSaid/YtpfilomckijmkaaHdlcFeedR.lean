/-
  THE DOCUMENT'S DECODER: bytes come.
-/
import Derived.Test.YtpfilomckijmkaaHdlcRef
import Derived.Test.YtpfilomckijmkaaCall
namespace Go.Proofs.Ytpfilomckijmkaa
open Go.RowKit

theorem row_base {w : World} {B B' : Nat} {e : TypeId} {size : Nat} {v : Value} {n : Nat} {xs : List Value} (h : w.ownsRow B e size v n xs) (hB : B' ≤ B) : w.ownsRow B' e size v n xs := by
  refine ⟨h.1, ?_⟩
  rcases h.2 with h2 | ⟨g, cap, cur, hv, hb, r⟩
  · exact .inl h2
  · exact .inr ⟨g, cap, cur, hv, Nat.le_trans hB hb, r⟩

abbrev RT : TypeId := 29
theorem nob_rcs (d : Hdl.Dec) (A : Option Addr) (n c : Nat) : NoB (rcs d (.slice A n c)).toList := by
  intro u hu x
  simp only [rcs, List.mem_cons, List.not_mem_nil, or_false] at hu
  rcases hu with rfl | rfl | rfl | rfl | rfl | rfl | rfl <;> simp
theorem row_grN {N : Nat} {T e : TypeId} {x y : World} {B size : Nat} {v : Value} {n : Nat} {xs : List Value} (h : x.ownsRow B e size v n xs) (hg : GrN N T x y) (he : e ≠ T) : y.ownsRow B e size v n xs := by
  refine row_keep h fun k hk => ?_
  rcases h.2 with ⟨rfl, _⟩ | ⟨g, cap, cur, rfl, hb, hh, _⟩
  · simp [Value.ownBlock] at hk
  · simp [Value.ownBlock] at hk
    subst hk
    rcases hg.2 g (Array.getElem?_eq_some_iff.1 hh).1 with e' | ⟨_, us, us', e1, _⟩
    · exact e'
    · rw [hh] at e1
      injection e1 with e1
      injection e1 with _ e1
      exact absurd e1 he
/-- cells that are slices, each one read as bytes that do not lie in V's block -/
def RdRow (w : World) (V : Value) (N : Nat) (xs : List Value) (ls : List (List UInt8)) : Prop := xs.length = ls.length ∧ ∀ (j : Nat) (l : List UInt8), ls[j]? = some l → ∃ (A : Option Addr) (c : Nat), xs[j]? = some (Value.slice A l.length c) ∧ Rd w A l.length c l ∧ Apart (.slice A 0 0) V ∧ New N A
theorem RdRow.nil (w : World) (V : Value) (N : Nat) : RdRow w V N [] [] := ⟨rfl, fun j l h => by simp at h⟩
theorem RdRow.map {w w' : World} {V V' : Value} {N : Nat} {xs : List Value} {ls : List (List UInt8)} (h : RdRow w V N xs ls) (hr : ∀ A n c l, n ≠ 0 → Rd w A n c l → Apart (.slice A 0 0) V → New N A → Rd w' A n c l ∧ Apart (.slice A 0 0) V') (h0 : ∀ l ∈ ls, l.length ≠ 0) : RdRow w' V' N xs ls :=
  ⟨h.1, fun j l hj => by
    obtain ⟨A, c, h1, h2, h3, h4⟩ := h.2 j l hj
    have := hr _ _ _ _ (h0 l (List.mem_of_getElem? hj)) h2 h3 h4
    exact ⟨A, c, h1, this.1, this.2, h4⟩⟩
theorem RdRow.snoc {w : World} {V : Value} {N : Nat} {xs : List Value} {ls : List (List UInt8)} {A : Option Addr} {n c : Nat} {l : List UInt8} (h : RdRow w V N xs ls) (hn : l.length = n) (hr : Rd w A n c l) (ha : Apart (.slice A 0 0) V) (hN : New N A) : RdRow w V N (xs ++ [.slice A n c]) (ls ++ [l]) := by
  subst hn
  refine ⟨by simp [h.1], fun j l' hj => ?_⟩
  rw [List.getElem?_append] at hj
  split at hj
  · obtain ⟨A', c', h1, h2, h3, h4⟩ := h.2 j l' hj
    exact ⟨A', c', by rw [List.getElem?_append_left (by rw [h.1]; assumption)]; exact h1, h2, h3, h4⟩
  · have hj0 : j - ls.length = 0 := by
      rcases Nat.eq_zero_or_pos (j - ls.length) with h0 | h0
      · exact h0
      · rw [List.getElem?_eq_none (by simp; omega)] at hj
        cases hj
    rw [hj0] at hj
    simp at hj
    subst hj
    have hjl : j = xs.length := by rw [h.1]; omega
    subst hjl
    exact ⟨A, c, by simp, hr, ha, hN⟩
theorem Rd.grown {w w' : World} {V : Value} {A : Option Addr} {n c : Nat} {l : List UInt8} (h : Rd w A n c l) (ha : Apart (.slice A 0 0) V) (hg : w.grownBy w' V.ownBlock) : Rd w' A n c l :=
  h.keep hg.size fun b off e hb => hg.block b hb fun e' => ha b (by subst e; rfl) e'.symm
theorem Apart.moved {w : World} {V V' : Value} {A : Option Addr} {n c : Nat} {l : List UInt8} (hr : Rd w A n c l) (hn : 0 < n) (ha : Apart (.slice A 0 0) V) (hV : V'.ownBlock = V.ownBlock ∨ V'.ownBlock = some w.heap.size) : Apart (.slice A 0 0) V' := by
  obtain ⟨b, off, rfl, hb, _⟩ := hr.at_ hn
  intro k e e'
  simp [Value.ownBlock] at e
  subst e
  rcases hV with h | h
  · exact ha b rfl (h ▸ e')
  · rw [h] at e'
    injection e' with e'
    omega
theorem Apart.new {N : Nat} {A : Option Addr} {V : Value} (h : New N A) (hV : ∀ k, V.ownBlock = some k → k < N) : Apart (.slice A 0 0) V := fun k e e' => by
  have := h k e
  have := hV k e'
  omega
def Off (A : Option Addr) (n : Nat) (V : Value) : Prop := n = 0 ∨ Apart (.slice A 0 0) V
theorem Off.grown {w w' : World} {V : Value} {A : Option Addr} {n c : Nat} {l : List UInt8} (h : Rd w A n c l) (ha : Off A n V) (hg : w.grownBy w' V.ownBlock) : Rd w' A n c l := by
  rcases ha with h0 | ha
  · subst h0
    have hl : l = [] := List.eq_nil_of_length_eq_zero h.len
    subst hl
    exact Rd.nil _ _ _
  · exact h.grown ha hg
theorem Off.moved {w : World} {V V' : Value} {A : Option Addr} {n c : Nat} {l : List UInt8} (hr : Rd w A n c l) (ha : Off A n V) (hV : V'.ownBlock = V.ownBlock ∨ V'.ownBlock = some w.heap.size) : Off A n V' := by
  rcases ha with h0 | ha
  · exact .inl h0
  · rcases Nat.eq_zero_or_pos n with h0 | h0
    · exact .inl h0
    · exact .inr (Apart.moved hr h0 ha hV)

/-- whence the decoder's bytes are -/
def Whence (A1 : Option Addr) (d1 d2 : Hdl.Dec) (N : Nat) (A : Option Addr) : Prop := (A = A1 ∧ d2 = d1) ∨ New N A
/-- what the call gives, and its parts -/
def TB5 (A1 : Option Addr) (d1 d : Hdl.Dec) (N : Nat) (t : List UInt8) (v : Value) (w : World) : Prop := ∃ A c A' c', v = .tuple #[.agg (rcs d (.slice A d.inn.length c)), .slice A' t.length c'] ∧ Rd w A d.inn.length c d.inn ∧ Rd w A' t.length c' t ∧ Whence A1 d1 d N A ∧ New N A'
def TB7 (A1 : Option Addr) (d1 d : Hdl.Dec) (N : Nat) (v : Value) (w : World) : Prop := ∃ A c, v = .agg (rcs d (.slice A d.inn.length c)) ∧ Rd w A d.inn.length c d.inn ∧ Whence A1 d1 d N A
def TB8 (N : Nat) (t : List UInt8) (v : Value) (w : World) : Prop := ∃ A' c', v = .slice A' t.length c' ∧ Rd w A' t.length c' t ∧ New N A'
section
variable {A1 : Option Addr} {d1 d : Hdl.Dec} {t : List UInt8} {v : Value} {x y : World} {N M : Nat}
theorem TB5.grN (h : TB5 A1 d1 d M t v x) (hg : GrN N RT x y) : TB5 A1 d1 d M t v y := by
  obtain ⟨A, c, A', c', rfl, h1, h2, h3⟩ := h
  exact ⟨A, c, A', c', rfl, h1.grN hg, h2.grN hg, h3⟩
theorem TB7.grN (h : TB7 A1 d1 d M v x) (hg : GrN N RT x y) : TB7 A1 d1 d M v y := by
  obtain ⟨A, c, rfl, h1, h2⟩ := h
  exact ⟨A, c, rfl, h1.grN hg, h2⟩
theorem TB8.grN (h : TB8 M t v x) (hg : GrN N RT x y) : TB8 M t v y := by
  obtain ⟨A, c, rfl, h1, h2⟩ := h
  exact ⟨A, c, rfl, h1.grN hg, h2⟩
end
/-- what is stored -/
def GB (A1 : Option Addr) (d1 d : Hdl.Dec) (N : Nat) (q : Nat) (w : World) : Prop := ∃ A c, w.heap[q]? = some (.cells (rcs d (.slice A d.inn.length c)) RT (0, 0)) ∧ Rd w A d.inn.length c d.inn ∧ Whence A1 d1 d N A

/-- what is so at a round's head: w, d: at the call; l: what has come -/
def RFeedI (w : World) (A0 : Option Addr) (d : Hdl.Dec) (l : List UInt8) (out : Value) (wr : World) : Prop :=
  ∃ Ao co xs A c, out = .slice Ao (Hdl.feed d l).2.length co ∧ wr.heap[w.heap.size]? = some (.cells (rcs (Hdl.feed d l).1 (.slice A (Hdl.feed d l).1.inn.length c)) RT (0, 0)) ∧ Rd wr A (Hdl.feed d l).1.inn.length c (Hdl.feed d l).1.inn ∧ Off A (Hdl.feed d l).1.inn.length out ∧ wr.heap[w.heap.size + 1]? = some (.cells #[.bool false, .slice none 0 0, .int .i64 0, .int .i64 0, .int .i64 0, .int .i64 0, .int .i64 0] RT (0, 0)) ∧
    wr.ownsRow (w.heap.size + 2) 25 1 (.slice Ao (Hdl.feed d l).2.length co) (Hdl.feed d l).2.length xs ∧ RdRow wr out w.heap.size xs (Hdl.feed d l).2 ∧ (∀ l' ∈ (Hdl.feed d l).2, l'.length ≠ 0) ∧ (((Hdl.feed d l).1.inn.length = 0 ∨ (A = A0 ∧ (Hdl.feed d l).1.inn = d.inn)) ∨ New w.heap.size A) ∧ Below w.heap.size w wr

theorem RFeedI.mk {w wr : World} {A0 : Option Addr} {d d2 : Hdl.Dec} {l : List UInt8} {ls2 : List (List UInt8)} {Ao : Option Addr} {co n' : Nat} {xs : List Value} {A : Option Addr} {c : Nat} (hf : Hdl.feed d l = (d2, ls2)) (hn : n' = ls2.length)
    (h1 : wr.heap[w.heap.size]? = some (.cells (rcs d2 (.slice A d2.inn.length c)) RT (0, 0))) (h2 : Rd wr A d2.inn.length c d2.inn) (h3 : Off A d2.inn.length (.slice Ao n' co))
    (h4 : wr.heap[w.heap.size + 1]? = some (.cells #[.bool false, .slice none 0 0, .int .i64 0, .int .i64 0, .int .i64 0, .int .i64 0, .int .i64 0] RT (0, 0)))
    (h5 : wr.ownsRow (w.heap.size + 2) 25 1 (.slice Ao n' co) n' xs) (h6 : RdRow wr (.slice Ao n' co) w.heap.size xs ls2) (h7 : ∀ l' ∈ ls2, l'.length ≠ 0) (h8 : (d2.inn.length = 0 ∨ (A = A0 ∧ d2.inn = d.inn)) ∨ New w.heap.size A) (h9 : Below w.heap.size w wr) :
    Hid (RFeedI w A0 d l (.slice Ao n' co) wr) := by
  subst hn
  show RFeedI _ _ _ _ _ _
  unfold RFeedI
  rw [hf]
  exact ⟨Ao, co, xs, A, c, rfl, h1, h2, h3, h4, h5, h6, h7, h8, h9⟩

set_option maxHeartbeats 2000000 in
theorem rfeed_any (w : World) (d : Hdl.Dec) (A0 : Option Addr) (c0 : Nat) (hR0 : Rd w A0 d.inn.length c0 d.inn) (A : Option Addr) (n c : Nat) (l : List UInt8) (hR : Rd w A n c l)
    (hok : Hdl.Ok d) (M : Nat) (hm : d.met.Le M) (hM : M + n ≤ 4611686018427387904) (hn : n ≤ 1000000000000) :
    Calls Try.prog 13 #[.agg (rcs d (.slice A0 d.inn.length c0)), .slice A n c] w fun e w' => ∃ A1 c1 Ao co xs, e = .returned (.tuple #[.agg (rcs (Hdl.feed d l).1 (.slice A1 (Hdl.feed d l).1.inn.length c1)), .slice Ao (Hdl.feed d l).2.length co]) ∧ Rd w' A1 (Hdl.feed d l).1.inn.length c1 (Hdl.feed d l).1.inn ∧
      w'.ownsRow w.heap.size 25 1 (.slice Ao (Hdl.feed d l).2.length co) (Hdl.feed d l).2.length xs ∧ RdRow w' (.slice Ao (Hdl.feed d l).2.length co) w.heap.size xs (Hdl.feed d l).2 ∧ (((Hdl.feed d l).1.inn.length = 0 ∨ (A1 = A0 ∧ (Hdl.feed d l).1.inn = d.inn)) ∨ New w.heap.size A1) ∧ Off A1 (Hdl.feed d l).1.inn.length (.slice Ao (Hdl.feed d l).2.length co) ∧ Below w.heap.size w w' := by
  have HR := Lib.hid hR
  have HOK := Lib.hid hok
  have HM := Lib.hid hm
  have hb0 : Below w.heap.size w (((w.alloc (.cells (rcs d (.slice A0 d.inn.length c0)) RT)).alloc (.cells #[.bool false, .slice none 0 0, .int .i64 0, .int .i64 0, .int .i64 0, .int .i64 0, .int .i64 0] RT)).alloc (.cells #[] 25)) := (((Below.refl _ _).alloc (Nat.le_refl _) _).alloc (by simp) _).alloc (by simp; omega) _
  have HI : Hid (RFeedI w A0 d [] (.slice (some ⟨w.heap.size + 2, 0, none⟩) 0 0) (((w.alloc (.cells (rcs d (.slice A0 d.inn.length c0)) RT)).alloc (.cells #[.bool false, .slice none 0 0, .int .i64 0, .int .i64 0, .int .i64 0, .int .i64 0, .int .i64 0] RT)).alloc (.cells #[] 25))) :=
    ⟨some ⟨w.heap.size + 2, 0, none⟩, 0, [], A0, c0, rfl, (Below.heap_alloc _ _ _ (by simp; omega)).trans (alloc2_0 w _ _), hR0.below hb0, (by
      rcases Nat.eq_zero_or_pos d.inn.length with h0 | h0
      · exact .inl h0
      · obtain ⟨b, off, rfl, hb, _⟩ := hR0.at_ h0
        exact .inr (fun k e e' => by simp [Value.ownBlock] at e e'; omega)), (Below.heap_alloc _ _ _ (by simp)).trans (alloc2_1 w _ _), own_empty _ _ _ _ 1 (by simp) (by omega), RdRow.nil _ _ _, (fun l' h => by cases h), .inl (.inr ⟨rfl, rfl⟩), hb0⟩
  clear hR hok hm hR0 hb0
  unfold rcs at HI
  unfold rcs
  go_enter Try.func13, Try.ntmps13
  go_wp2
  go_loopw [6, 7] (fun out i wr => ∃ k : Nat, k ≤ n ∧ i = .int .i64 k ∧ Hid (RFeedI w A0 d (l.take k) out wr)) (fun _ i _ => n - (intOf i).toNat)
  case atStart => exact ⟨0, Nat.zero_le _, rfl, by rw [List.take_zero]; exact HI⟩
  case round =>
    obtain ⟨k, hk, rfl, hI⟩ := hrel
    by_cases hlt : k < n
    · obtain ⟨b, off, x, rfl, hb, hx, hc⟩ := HR.out.at' hlt
      obtain ⟨Ao, co, xs, A1, c1, rfl, hd, hr1, hoff, hz, hown, hrow, hne, hwh, hbel⟩ := hI.out
      have hcw : wr.cell? ⟨b, off + k, none⟩ = some (bv x) := (hbel.cell (p := ⟨b, off + k, none⟩) hb).trans hc
      have hle := Hdl.le_feed (l.take k) HM.out
      have htl := Hdl.told_feed (l.take k) d
      have hlk : (l.take k).length ≤ k := List.length_take_le _ _
      have hok1 := Hdl.ok_feed (l.take k) HOK.out
      have hsn := Hdl.feed_snoc (l.take k) x d
      have hs2 := Hdl.step_said (Hdl.feed d (l.take k)).1 x
      have e1 : l.take (k + 1) = l.take k ++ [x] := by rw [List.take_add_one, hx]; rfl
      rw [← e1] at hsn
      obtain ⟨d1, hd1⟩ : ∃ d1, d1 = (Hdl.feed d (l.take k)).1 := ⟨_, rfl⟩
      obtain ⟨ls, hls⟩ : ∃ ls, ls = (Hdl.feed d (l.take k)).2 := ⟨_, rfl⟩
      rw [← hd1] at hd hr1 hle hok1 hsn hs2 hoff hwh
      rw [← hls] at hown hrow htl hsn hne hoff
      obtain ⟨d2, hd2⟩ : ∃ d2, d2 = (Hdl.step d1 x).1 := ⟨_, rfl⟩
      obtain ⟨t, ht⟩ : ∃ t, t = Hdl.said d1 x := ⟨_, rfl⟩
      have hby : ∀ W, Rd W A1 d1.inn.length c1 d1.inn → Calls Try.prog 23 #[.agg (rcs d1 (.slice A1 d1.inn.length c1)), .int .u8 (x.toNat : Int)] W (RByteP W A1 d1 d2 t) := fun W h => by rw [hd2, ht]; exact rbyte_any W A1 c1 x h hok1 (hle.mono (by omega))
      rw [← hd2] at hsn
      rw [← ht] at hs2
      have hlen : ls.length = (Hdl.feed d (l.take k)).2.length := by rw [hls]
      rw [← hlen]
      have HBY := Lib.hid hby
      have HSN := Lib.hid hsn
      have HS2 := Lib.hid hs2
      have HX := Lib.hid hx
      have HDB := Lib.hid hd
      have HR1 := Lib.hid hr1
      have HZ := Lib.hid hz
      have HOWN := Lib.hid hown
      have HROW := Lib.hid hrow
      have HBEL := Lib.hid hbel
      have HOFF := Lib.hid hoff
      have HNE := Lib.hid hne
      have HWH := Lib.hid hwh
      have hbs := Nat.lt_of_lt_of_le hb hbel.size
      have hws : w.heap.size < wr.heap.size := (Array.getElem?_eq_some_iff.1 hd).1
      clear hby hsn hs2 hx hd hr1 hz hown hrow hbel hoff hne hwh hd1 hls hd2 ht hlen hI e1 hle hok1
      go_wp2_with fail
      refine Free.wp_seq4 (I := fun a L w' => CallI wr.heap.size 8 10 (GB A1 d1 d2 wr.heap.size) wr a L w') (Gr := fun _ x y => GrN wr.heap.size RT x y) (by kernel_rfl) (by kernel_rfl) ⟨(Below.refl _ _).drew, fun h => by cases h⟩ ?_
      refine Free.Seq4.val ?_ (fun _ => GrN.refl _ _ _) (fun a L w v h => h.other (by decide) (by simp)) (fun a w3 L hI hp => ?_) ?_
      rotate_left
      · have e2 := hp.slotV 2 (by kernel_rfl) rfl; simp at e2
        have k0 : w3.cell? ⟨w.heap.size, 0, none⟩ = _ := (hI.1.cell (p := ⟨w.heap.size, 0, none⟩) hws).trans (cell_of_cells HDB.out 0)
        have k1 : w3.cell? ⟨w.heap.size, 1, none⟩ = _ := (hI.1.cell (p := ⟨w.heap.size, 1, none⟩) hws).trans (cell_of_cells HDB.out 1)
        have k2 : w3.cell? ⟨w.heap.size, 2, none⟩ = _ := (hI.1.cell (p := ⟨w.heap.size, 2, none⟩) hws).trans (cell_of_cells HDB.out 2)
        have k3 : w3.cell? ⟨w.heap.size, 3, none⟩ = _ := (hI.1.cell (p := ⟨w.heap.size, 3, none⟩) hws).trans (cell_of_cells HDB.out 3)
        have k4 : w3.cell? ⟨w.heap.size, 4, none⟩ = _ := (hI.1.cell (p := ⟨w.heap.size, 4, none⟩) hws).trans (cell_of_cells HDB.out 4)
        have k5 : w3.cell? ⟨w.heap.size, 5, none⟩ = _ := (hI.1.cell (p := ⟨w.heap.size, 5, none⟩) hws).trans (cell_of_cells HDB.out 5)
        have k6 : w3.cell? ⟨w.heap.size, 6, none⟩ = _ := (hI.1.cell (p := ⟨w.heap.size, 6, none⟩) hws).trans (cell_of_cells HDB.out 6)
        simp [rcs] at k0 k1 k2 k3 k4 k5 k6
        refine ⟨Free.want_none rfl, ?_⟩
        clear hp
        go_simp
        rfl
      refine Free.Seq4.val ?_ (fun _ => GrN.refl _ _ _) (fun a L w v h => h.other (by decide) (by simp)) (fun a w3 L hI hp => ?_) ?_
      rotate_left
      · have e1 := hp.slotV 1 (by kernel_rfl) rfl; simp at e1
        refine ⟨Free.want_none rfl, ?_⟩
        clear hp
        go_simp
        rfl
      refine Free.Seq4.val ?_ (fun _ => GrN.refl _ _ _) (fun a L w v h => h.other (by decide) (by simp)) (fun a w3 L hI hp => ?_) ?_
      rotate_left
      · have e7 := hp.slotV 7 (by kernel_rfl) rfl; simp at e7
        refine ⟨Free.want_none rfl, ?_⟩
        clear hp
        go_simp
        rfl
      refine Free.Seq4.val ?_ (fun _ => GrN.refl _ _ _) (fun a L w v h => h.other (by decide) (by simp)) (fun a w3 L hI hp => ?_) ?_
      rotate_left
      · have e19 := hp.backV 1 1 rfl rfl rfl rfl rfl; have e20 := hp.backV 2 0 rfl rfl rfl rfl rfl
        refine ⟨Free.want_none rfl, ?_⟩
        clear hp
        go_simp
        rfl
      refine Free.Seq4.val ?_ (fun _ => GrN.refl _ _ _) (fun a L w v h => h.other (by decide) (by simp)) (fun a w3 L hI hp => ?_) ?_
      rotate_left
      · have e21 := hp.backV 3 0 rfl rfl rfl rfl rfl
        have kx := (hI.1.cell (p := ⟨b, off + k, none⟩) hbs).trans hcw
        refine ⟨Free.want_none rfl, ?_⟩
        clear hp
        go_simp
        rfl
      refine Free.Seq4.call (T := TB5 A1 d1 d2 wr.heap.size t) (fun j hj _ v x y h hg => TB5.grN h hg) (fun a w3 L hI hp => ?_) ?_
      · have e18 := hp.backV 0 4 rfl rfl rfl rfl rfl; have e22 := hp.backV 4 0 rfl rfl rfl rfl rfl
        have u10 : Free.upd L 5 10 = false := (upd_ne (by decide)).trans (hp.up 10 40 (by kernel_rfl))
        refine ⟨Free.want_none rfl, 23, #[.agg (rcs d1 (.slice A1 d1.inn.length c1)), .int .u8 (x.toNat : Int)], ?_, ?_⟩
        · clear hp hI
          unfold rcs
          go_simp
        · refine (HBY.out _ (HR1.out.below hI.1)).mono ?_
          rintro e w' ⟨A2, c2, A3, c3, rfl, h2, h3, h5, h6, h4⟩
          exact ⟨_, rfl, ⟨A2, c2, A3, c3, rfl, h2, h3, h5.imp id (fun h => h.base hI.1.size), h6.base hI.1.size⟩, GrN.below h4, ⟨hI.1.trans (h4.mono hI.1.size), fun e => by have e' : Free.upd L 5 10 = true := e; rw [u10] at e'; cases e'⟩⟩
      refine Free.Seq4.op (T := TB5 A1 d1 d2 wr.heap.size t) (fun j hj _ v x y h hg => TB5.grN h hg) (fun a w3 L hI hp => ?_) ?_
      · skip
        obtain ⟨A2, c2, A3, c3, e23, h2, h3, h5, h6⟩ := hp.back 5 0 rfl rfl rfl rfl rfl
        refine ⟨Free.want_none rfl, .tuple #[.agg (rcs d2 (.slice A2 d2.inn.length c2)), .slice A3 t.length c3], w3, ?_, ⟨A2, c2, A3, c3, rfl, h2, h3, h5, h6⟩, GrN.refl _ _ _, hI.other (by decide) (by simp)⟩
        clear hp hI h2 h3
        go_simp
      refine Free.Seq4.op (T := TB7 A1 d1 d2 wr.heap.size) (fun j hj _ v x y h hg => TB7.grN h hg) (fun a w3 L hI hp => ?_) ?_
      · skip
        obtain ⟨A2, c2, A3, c3, e17, h2, h3, h5, h6⟩ := hp.back 6 0 rfl rfl rfl rfl rfl
        refine ⟨Free.want_none rfl, .agg (rcs d2 (.slice A2 d2.inn.length c2)), w3, ?_, ⟨A2, c2, rfl, h2, h5⟩, GrN.refl _ _ _, hI.other (by decide) (by simp)⟩
        clear hp hI h2 h3
        go_simp
      refine Free.Seq4.op (T := TB8 wr.heap.size t) (fun j hj _ v x y h hg => TB8.grN h hg) (fun a w3 L hI hp => ?_) ?_
      · skip
        obtain ⟨A2, c2, A3, c3, e17, h2, h3, h5, h6⟩ := hp.back 6 1 rfl rfl rfl rfl rfl
        refine ⟨Free.want_none rfl, .slice A3 t.length c3, w3, ?_, ⟨A3, c3, rfl, h3, h6⟩, GrN.refl _ _ _, hI.other (by decide) (by simp)⟩
        clear hp hI h2 h3
        go_simp
      refine Free.Seq4.op (T := TPtr wr.heap.size RT 7) (fun j hj _ v x y h hg => TPtr.grN h hg) (fun a w3 L hI hp => ?_) ?_
      · skip
        have u10 : L 10 = false := hp.up 10 40 (by kernel_rfl)
        have hb2 : Below w3.heap.size w3 (w3.alloc (.cells #[.bool false, .slice none 0 0, .int .i64 0, .int .i64 0, .int .i64 0, .int .i64 0, .int .i64 0] RT)) := (Below.refl _ _).alloc (Nat.le_refl _) _
        refine ⟨Free.want_none rfl, .pointer (some ⟨w3.heap.size, 0, none⟩), w3.alloc (.cells #[.bool false, .slice none 0 0, .int .i64 0, .int .i64 0, .int .i64 0, .int .i64 0, .int .i64 0] RT), ?_, ⟨w3.heap.size, [.bool false, .slice none 0 0, .int .i64 0, .int .i64 0, .int .i64 0, .int .i64 0, .int .i64 0], rfl, hI.1.size, heap_alloc_new _ _, rfl, nob_rcs ⟨false, [], ⟨0, 0, 0, 0, 0⟩⟩ none 0 0⟩, GrN.below hb2, ⟨hI.1.trans (hb2.mono hI.1.size), fun e => by have e' : L 10 = true := e; rw [u10] at e'; cases e'⟩⟩
        clear hp hI hb2
        go_simp
      refine Free.Seq4.skip rfl (fun _ => True) (fun _ _ _ _ _ _ _ => trivial) (fun a w3 L hI hp => ?_) ?_
      · skip
        obtain ⟨A2, c2, e24, h2, h5⟩ := hp.back 7 2 rfl rfl rfl rfl rfl
        obtain ⟨q, us, e8, hq, hus, hl, hnb⟩ := hp.back 9 0 rfl rfl rfl rfl rfl
        match us, hl, hus, hnb with
        | [u0, u1, u2, u3, u4, u5, u6], _, hus, hnb =>
          have z1 : w3.heap[q]? = some (.cells #[u0, u1, u2, u3, u4, u5, u6] RT (0, 0)) := hus
          obtain ⟨⟨r0, r1, r2, r3, r4, r5, r6⟩, fr⟩ := cells7 z1
          have f0 := fr 0
          have f1 := fr 1
          have f2 := fr 2
          have f3 := fr 3
          have f4 := fr 4
          have f5 := fr 5
          have f6 := fr 6
          have hst := heap_set7 z1 (.bool d2.hunts) (.slice A2 d2.inn.length c2) (.int .i64 d2.met.good) (.int .i64 d2.met.bad) (.int .i64 d2.met.short) (.int .i64 d2.met.long) (.int .i64 d2.met.broken)
          have hbe := below_set7 (B := wr.heap.size) (g := q) hI.1 hq (.bool d2.hunts) (.slice A2 d2.inn.length c2) (.int .i64 d2.met.good) (.int .i64 d2.met.bad) (.int .i64 d2.met.short) (.int .i64 d2.met.long) (.int .i64 d2.met.broken)
          have hgr : GrN wr.heap.size RT w3 (set7 w3 q (.bool d2.hunts) (.slice A2 d2.inn.length c2) (.int .i64 d2.met.good) (.int .i64 d2.met.bad) (.int .i64 d2.met.short) (.int .i64 d2.met.long) (.int .i64 d2.met.broken)) :=
            GrN.row (us := [u0, u1, u2, u3, u4, u5, u6]) (us' := (rcs d2 (.slice A2 d2.inn.length c2)).toList) hq z1 hst rfl hnb (nob_rcs d2 A2 d2.inn.length c2) (by simp [set7]) (fun k hk => by simp only [set7, heap_setCell_other _ (⟨q, _, none⟩ : Addr) _ _ hk])
          refine ⟨Free.want_none rfl, set7 w3 q (.bool d2.hunts) (.slice A2 d2.inn.length c2) (.int .i64 d2.met.good) (.int .i64 d2.met.bad) (.int .i64 d2.met.short) (.int .i64 d2.met.long) (.int .i64 d2.met.broken), ?_, trivial, hgr, ⟨hbe, fun _ => ⟨q, by simpa using e8, hq, A2, c2, hst, h2.grN hgr, h5⟩⟩⟩
          clear hp hI h2 hst hbe hgr hus z1 fr hnb
          unfold rcs at e24
          unfold set7
          go_simp
      refine Free.Seq4.op (T := TB8 wr.heap.size t) (fun j hj _ v x y h hg => TB8.grN h hg) (fun a w3 L hI hp => ?_) ?_
      · skip
        obtain ⟨A3, c3, e25, h3, h6⟩ := hp.back 8 2 rfl rfl rfl rfl rfl
        refine ⟨Free.want_none rfl, .slice A3 t.length c3, w3, ?_, ⟨A3, c3, rfl, h3, h6⟩, GrN.refl _ _ _, hI.other (by decide) (by simp)⟩
        clear hp hI h3
        go_simp
      refine Free.Seq4.done (by simp) (fun wz L hLz => ?_)
      simp only [List.reverse_cons, List.reverse_nil, List.nil_append, List.cons_append, Free.All, Free.eqF, forall_eq]
      rintro x23 - x17 - x24 - x25 - v8 - xS - v9 h9 hIz
      simp only [Free.putL, Act.put, List.setIfInBounds_toArray, List.set_cons_zero, List.set_cons_succ]
      simp only [Free.putL, Act.put, List.setIfInBounds_toArray, List.set_cons_zero, List.set_cons_succ] at hIz
      have hbz := hIz.1
      obtain ⟨q, e8, hq, A2, c2, hq2, hr2, hw2⟩ := hIz.2 (hLz 10 (by decide))
      have hv8 : v8 = .pointer (some ⟨q, 0, none⟩) := e8
      obtain ⟨A3, c3, rfl, hr3, hn3⟩ := h9
      clear hIz hLz e8
      subst hv8
      have hqz : q < wz.heap.size := (Array.getElem?_eq_some_iff.1 hq2).1
      have z0 : wz.heap[w.heap.size]? = some (.cells #[.bool d1.hunts, .slice A1 d1.inn.length c1, .int .i64 d1.met.good, .int .i64 d1.met.bad, .int .i64 d1.met.short, .int .i64 d1.met.long, .int .i64 d1.met.broken] RT (0, 0)) := (hbz.block w.heap.size hws).trans HDB.out
      have z1 := hbz.block (w.heap.size + 1) (Array.getElem?_eq_some_iff.1 HZ.out).1 |>.trans HZ.out
      obtain ⟨⟨r0, r1, r2, r3, r4, r5, r6⟩, fr⟩ := cells7 z0
      have f0 := fr 0
      have f1 := fr 1
      have f2 := fr 2
      have f3 := fr 3
      have f4 := fr 4
      have f5 := fr 5
      have f6 := fr 6
      have hq3 : wz.heap[q]? = some (.cells #[.bool d2.hunts, .slice A2 d2.inn.length c2, .int .i64 d2.met.good, .int .i64 d2.met.bad, .int .i64 d2.met.short, .int .i64 d2.met.long, .int .i64 d2.met.broken] RT (0, 0)) := hq2
      obtain ⟨⟨s0, s1, s2, s3, s4, s5, s6⟩, _⟩ := cells7 hq3
      clear hq3
      have hst := heap_set7 z0 (.bool d2.hunts) (.slice A2 d2.inn.length c2) (.int .i64 d2.met.good) (.int .i64 d2.met.bad) (.int .i64 d2.met.short) (.int .i64 d2.met.long) (.int .i64 d2.met.broken)
      have hbw := HBEL.out.trans (hbz.mono HBEL.out.size)
      have hgr : GrN w.heap.size RT wz (set7 wz w.heap.size (.bool d2.hunts) (.slice A2 d2.inn.length c2) (.int .i64 d2.met.good) (.int .i64 d2.met.bad) (.int .i64 d2.met.short) (.int .i64 d2.met.long) (.int .i64 d2.met.broken)) :=
        GrN.row (us := (rcs d1 (.slice A1 d1.inn.length c1)).toList) (us' := (rcs d2 (.slice A2 d2.inn.length c2)).toList) (Nat.le_refl _) z0 hst rfl (nob_rcs _ _ _ _) (nob_rcs d2 A2 d2.inn.length c2) (by simp [set7]) (fun k hk => by simp only [set7, heap_setCell_other _ (⟨w.heap.size, _, none⟩ : Addr) _ _ hk])
      have hbe := below_set7 (B := w.heap.size) (g := w.heap.size) hbw (Nat.le_refl _) (.bool d2.hunts) (.slice A2 d2.inn.length c2) (.int .i64 d2.met.good) (.int .i64 d2.met.bad) (.int .i64 d2.met.short) (.int .i64 d2.met.long) (.int .i64 d2.met.broken)
      have HHD : Hid ((set7 wz w.heap.size (.bool d2.hunts) (.slice A2 d2.inn.length c2) (.int .i64 d2.met.good) (.int .i64 d2.met.bad) (.int .i64 d2.met.short) (.int .i64 d2.met.long) (.int .i64 d2.met.broken)).heap[w.heap.size]? = some (.cells (rcs d2 (.slice A2 d2.inn.length c2)) RT (0, 0))) := hst
      have HR2 := Lib.hid (hr2.grN hgr)
      have hbo : ∀ k, Value.ownBlock (.slice Ao ls.length co) = some k → k < wr.heap.size := fun k e => (World.ownsRow.lt HOWN.out k e).2
      have HOF2 : Hid (Off A2 d2.inn.length (.slice Ao ls.length co)) := by
        rcases hw2 with ⟨e1, e2⟩ | hn
        · rw [e1, e2]; exact HOFF.out
        · exact .inr (Apart.new hn hbo)
      have HAP3 : Hid (Apart (.slice A3 0 0) (.slice Ao ls.length co)) := Apart.new hn3 hbo
      have HN3 := Lib.hid (hn3.base (by omega : w.heap.size ≤ wr.heap.size))
      have HW2 : Hid ((d2.inn.length = 0 ∨ (A2 = A0 ∧ d2.inn = d.inn)) ∨ New w.heap.size A2) := by
        rcases hw2 with ⟨e1, e2⟩ | hn
        · rw [e1, e2]; exact HWH.out
        · exact .inr (hn.base (by omega))
      clear hw2 hn3 hbo
      have HZ2 : Hid ((set7 wz w.heap.size (.bool d2.hunts) (.slice A2 d2.inn.length c2) (.int .i64 d2.met.good) (.int .i64 d2.met.bad) (.int .i64 d2.met.short) (.int .i64 d2.met.long) (.int .i64 d2.met.broken)).heap[w.heap.size + 1]? = some (.cells #[.bool false, .slice none 0 0, .int .i64 0, .int .i64 0, .int .i64 0, .int .i64 0, .int .i64 0] RT (0, 0))) := by
        show _ = _
        rw [← z1]
        simp only [set7, heap_setCell_other _ (⟨w.heap.size, _, none⟩ : Addr) _ _ (show w.heap.size + 1 ≠ w.heap.size by omega)]
      have HR3 := Lib.hid (hr3.grN hgr)
      have HOW2 := Lib.hid (row_grN (own_below HOWN.out hbz) hgr (by decide))
      have HRW2 := Lib.hid (HROW.out.map (fun _ _ _ _ _ h ha _ => ⟨(h.below hbz).grN hgr, ha⟩) HNE.out)
      have HBE := Lib.hid hbe
      obtain ⟨wy, hwy⟩ : ∃ wy, wy = set7 wz w.heap.size (.bool d2.hunts) (.slice A2 d2.inn.length c2) (.int .i64 d2.met.good) (.int .i64 d2.met.bad) (.int .i64 d2.met.short) (.int .i64 d2.met.long) (.int .i64 d2.met.broken) := ⟨_, rfl⟩
      rw [← hwy] at HHD HR2 HZ2 HR3 HOW2 HRW2 HBE
      unfold set7 at hwy
      have HWY := Lib.hid hwy
      clear hwy hgr hbe hst hbw z0 z1 fr hr2 hr3 hq2 hbz
      by_cases ht0 : t.length = 0
      · have hs0 := HS2.out
        rw [if_pos ht0] at hs0
        rw [ht0]
        have HS0 := Lib.hid hs0
        clear hs0 ht0
        go_wp2_with fail
        go_roundw
        case rel =>
          rw [← HWY.out]
          have hfd : Hdl.feed d (l.take (k + 1)) = (d2, ls) := by rw [HSN.out, HS0.out, List.append_nil]
          exact ⟨k + 1, by omega, by go_num, RFeedI.mk hfd (n' := ls.length) rfl HHD.out HR2.out HOF2.out HZ2.out HOW2.out HRW2.out HNE.out HW2.out HBE.out⟩
        case measure => simp [intOf]; omega
      · have hs0 := HS2.out
        rw [if_neg ht0] at hs0
        have HS0 := Lib.hid hs0
        have h0 : (0 : Int) < (t.length : Int) := by omega
        clear hs0 ht0
        have hl33 : ls.length + 1 ≤ 1000000000000 := by omega
        go_wp2_with ((with_reducible show wpList _ _ _ (⟨some 33, _, _, _, _, _⟩ :: _) _ _); rw [← HWY.out]; refine wpList_app _ rfl elemL (.tmp 30) (.tmp 32) rfl rfl (HOW2.out.alloc _) rfl (Src.new' wy _ (by rw [HWY.out]; simp) [_] _ 1 1 rfl (by simp [Value.oneCell'])) (ls.length + 1) rfl (by omega) (by have := HBE.out.size; have := (Array.getElem?_eq_some_iff.1 HZ2.out).1; simp; omega) ?_; intro A4 c4 w4 hown4 hg4 hat4)
        have hgz : World.grownBy (wy.alloc _) w4 (Value.ownBlock (.slice Ao ls.length co)) := hg4
        have hat : Value.ownBlock (.slice A4 (ls.length + 1) c4) = Value.ownBlock (.slice Ao ls.length co) ∨ Value.ownBlock (.slice A4 (ls.length + 1) c4) = some (wy.alloc (.cells #[.slice A3 t.length c3] 25)).heap.size := hat4
        have hba : Below wy.heap.size wy (wy.alloc (.cells #[.slice A3 t.length c3] 25)) := (Below.refl _ _).alloc (Nat.le_refl _) _
        have hlr : ∀ k, Value.ownBlock (.slice Ao ls.length co) = some k → w.heap.size + 2 ≤ k := fun k e => (World.ownsRow.lt HOW2.out k e).1
        have hsz1 : w.heap.size + 1 < wy.heap.size := (Array.getElem?_eq_some_iff.1 HZ2.out).1
        have mv : ∀ A n c l, n ≠ 0 → Rd wy A n c l → Apart (.slice A 0 0) (.slice Ao ls.length co) → New w.heap.size A → Rd w4 A n c l ∧ Apart (.slice A 0 0) (.slice A4 (ls.length + 1) c4) := fun A n c l h0 hr ha _ => ⟨(hr.below hba).grown ha hgz, Apart.moved (hr.below hba) (by omega) ha hat⟩
        have h3 := mv _ _ _ _ (by omega) HR3.out HAP3.out HN3.out
        have hne2 : ∀ l' ∈ ls ++ [t], l'.length ≠ 0 := by
          intro l' h
          rcases List.mem_append.1 h with h | h
          · exact HNE.out l' h
          · rw [List.mem_singleton.1 h]; omega
        have hfin : Hid (RFeedI w A0 d (l.take (k + 1)) (.slice A4 (ls.length + 1) c4) w4) :=
          RFeedI.mk (d2 := d2) (ls2 := ls ++ [t]) (by rw [HSN.out, HS0.out]) (by simp) ((hgz.block _ (by simp; omega) (fun e => by have := hlr _ e.symm; omega)).trans ((hba.block _ (by omega)).trans HHD.out)) (Off.grown (HR2.out.below hba) HOF2.out hgz) (Off.moved (HR2.out.below hba) HOF2.out hat) ((hgz.block _ (by simp; omega) (fun e => by have := hlr _ e.symm; omega)).trans ((hba.block _ (by omega)).trans HZ2.out))
            hown4 ((HRW2.out.map mv HNE.out).snoc rfl h3.1 h3.2 HN3.out) hne2 HW2.out (below_app' (HBE.out.alloc (by omega) _) (HOW2.out.alloc _) hg4 (by omega) (by simp; omega))
        clear hgz hat hba hlr mv h3 hne2 hown4 hg4 hat4
        go_wp2_with fail
        go_roundw
        case rel => exact ⟨k + 1, by omega, by go_num, hfin⟩
        case measure => simp [intOf]; omega
    · obtain rfl : k = n := by omega
      rw [List.take_of_length_le (by rw [HR.out.len]; omega)] at hI
      obtain ⟨Ao, co, xs, A1, c1, rfl, hd, hr1, hoff, hz, hown, hrow, hne, hwh, hbel⟩ := hI.out
      obtain ⟨d1, hd1⟩ : ∃ d1, d1 = (Hdl.feed d l).1 := ⟨_, rfl⟩
      obtain ⟨ls, hls⟩ : ∃ ls, ls = (Hdl.feed d l).2 := ⟨_, rfl⟩
      rw [← hd1] at hd hr1 hoff hwh
      rw [← hls] at hown hrow hne hoff
      have hlen : ls.length = (Hdl.feed d l).2.length := by rw [hls]
      rw [← hlen]
      have HD1 := Lib.hid hd1
      have HLS := Lib.hid hls
      have z0 : wr.heap[w.heap.size]? = some (.cells #[.bool d1.hunts, .slice A1 d1.inn.length c1, .int .i64 d1.met.good, .int .i64 d1.met.bad, .int .i64 d1.met.short, .int .i64 d1.met.long, .int .i64 d1.met.broken] RT (0, 0)) := hd
      obtain ⟨⟨s0, s1, s2, s3, s4, s5, s6⟩, _⟩ := cells7 z0
      obtain ⟨⟨r0, r1, r2, r3, r4, r5, r6⟩, fr⟩ := cells7 hz
      have f0 := fr 0
      have f1 := fr 1
      have f2 := fr 2
      have f3 := fr 3
      have f4 := fr 4
      have f5 := fr 5
      have f6 := fr 6
      have hst := heap_set7 hz (.bool d1.hunts) (.slice A1 d1.inn.length c1) (.int .i64 d1.met.good) (.int .i64 d1.met.bad) (.int .i64 d1.met.short) (.int .i64 d1.met.long) (.int .i64 d1.met.broken)
      have hgr : GrN w.heap.size RT wr (set7 wr (w.heap.size + 1) (.bool d1.hunts) (.slice A1 d1.inn.length c1) (.int .i64 d1.met.good) (.int .i64 d1.met.bad) (.int .i64 d1.met.short) (.int .i64 d1.met.long) (.int .i64 d1.met.broken)) :=
        GrN.row (us := [.bool false, .slice none 0 0, .int .i64 0, .int .i64 0, .int .i64 0, .int .i64 0, .int .i64 0]) (us' := (rcs d1 (.slice A1 d1.inn.length c1)).toList) (Nat.le_succ _) hz hst rfl (nob_rcs ⟨false, [], ⟨0, 0, 0, 0, 0⟩⟩ none 0 0) (nob_rcs d1 A1 d1.inn.length c1) (by simp [set7]) (fun k hk => by simp only [set7, heap_setCell_other _ (⟨w.heap.size + 1, _, none⟩ : Addr) _ _ hk])
      have HBE := Lib.hid (below_set7 (B := w.heap.size) (g := w.heap.size + 1) hbel (by omega) (.bool d1.hunts) (.slice A1 d1.inn.length c1) (.int .i64 d1.met.good) (.int .i64 d1.met.bad) (.int .i64 d1.met.short) (.int .i64 d1.met.long) (.int .i64 d1.met.broken))
      have HST := Lib.hid hst
      have HR1 := Lib.hid (hr1.grN hgr)
      have HOWN := Lib.hid (row_grN hown hgr (by decide))
      have HROW := Lib.hid (hrow.map (fun _ _ _ _ _ h ha _ => ⟨h.grN hgr, ha⟩) hne)
      have HOFF := Lib.hid hoff
      have HWH := Lib.hid hwh
      clear fr z0 hz hd hr1 hoff hwh hown hrow hne hbel hI hst hgr hd1 hls hlen
      go_wp2
      refine bodyPost_ret (results_cell2 rfl _ _ (w.heap.size + 1) _ _ _ _ rfl HST.out Try.underlying29 rfl (by kernel_rfl)) rfl ?_
      rw [← HD1.out, ← HLS.out]
      refine ⟨A1, c1, Ao, co, xs, rfl, HR1.out, row_base HOWN.out (by omega), HROW.out, HWH.out, HOFF.out, HBE.out⟩
end Go.Proofs.Ytpfilomckijmkaa
