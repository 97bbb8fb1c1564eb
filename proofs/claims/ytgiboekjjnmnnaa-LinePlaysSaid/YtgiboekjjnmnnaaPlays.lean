/-
  LinePlays.
-/
import Derived.Test.YtgiboekjjnmnnaaPlayAny
import Derived.Test.YtgiboekjjnmnnaaFlagC
namespace Go.Proofs.Ytgiboekjjnmnnaa
open Go.RowKit

/-- calls of a line, as a slice of them reads -/
def RdA (w : World) (A : Option Addr) (n : Nat) : Prop := 0 < n → ∃ b off, A = some ⟨b, off, none⟩ ∧ b < w.heap.size ∧ ∀ j, j < n → ∃ (i0 i1 i2 : Int) (Aa : Option Addr) (na ca : Nat),
  w.cell? ⟨b, off + j * 4, none⟩ = some (.int .i64 i0) ∧ w.cell? ⟨b, off + j * 4 + 1, none⟩ = some (.int .i64 i1) ∧ w.cell? ⟨b, off + j * 4 + 2, none⟩ = some (.int .i64 i2) ∧ w.cell? ⟨b, off + j * 4 + 3, none⟩ = some (.slice Aa na ca) ∧
  (na ≤ 3000 → ∃ l, Rd w Aa na ca l)
theorem RdA.below {w w' : World} {A : Option Addr} {n : Nat} (h : RdA w A n) (hb : Below w.heap.size w w') : RdA w' A n := by
  intro hn
  obtain ⟨b, off, e, hblt, hc⟩ := h hn
  refine ⟨b, off, e, Nat.lt_of_lt_of_le hblt hb.size, fun j hj => ?_⟩
  obtain ⟨i0, i1, i2, Aa, na, ca, h0, h1, h2, h3, h4⟩ := hc j hj
  exact ⟨i0, i1, i2, Aa, na, ca, (hb.cell (p := ⟨b, off + j * 4, none⟩) hblt).trans h0, (hb.cell (p := ⟨b, off + j * 4 + 1, none⟩) hblt).trans h1, (hb.cell (p := ⟨b, off + j * 4 + 2, none⟩) hblt).trans h2, (hb.cell (p := ⟨b, off + j * 4 + 3, none⟩) hblt).trans h3, fun h => by
    obtain ⟨l, hl⟩ := h4 h
    exact ⟨l, hl.below hb⟩⟩

set_option maxHeartbeats 1000000 in
theorem rnew_ok (w : World) (dl : Int) (h0 : 0 ≤ dl) (h1 : dl ≤ 64) :
    Calls Try.prog 13 #[.int .i64 dl] w fun e w' => e = .returned (.tuple #[.agg #[.int .i64 dl, .slice none 0 0], .int .i64 0]) ∧ Below w.heap.size w w' := by
  have t1 : decide (dl < 0) = false := by simp; omega
  have t2 : decide (64 < dl) = false := by simp; omega
  go_enter Try.func13, Try.ntmps13
  go_wp2
  go_returns
  exact ⟨rfl, (Below.refl w.heap.size w).alloc (Nat.le_refl _) _⟩
set_option maxHeartbeats 1000000 in
theorem rnew_bad (w : World) (dl : Int) (h : dl < 0 ∨ 64 < dl) :
    Calls Try.prog 13 #[.int .i64 dl] w fun e w' => e = .returned (.tuple #[.agg #[.int .i64 0, .slice none 0 0], .int .i64 1]) ∧ Below w.heap.size w w' := by
  by_cases h0 : dl < 0
  · have t1 : decide (dl < 0) = true := by simp; omega
    go_enter Try.func13, Try.ntmps13
    go_wp2
    go_returns
    exact ⟨rfl, (Below.refl w.heap.size w).alloc (Nat.le_refl _) _⟩
  · have t1 : decide (dl < 0) = false := by simp; omega
    have t2 : decide (64 < dl) = true := by simp; omega
    go_enter Try.func13, Try.ntmps13
    go_wp2
    go_returns
    exact ⟨rfl, (Below.refl w.heap.size w).alloc (Nat.le_refl _) _⟩

set_option maxHeartbeats 2000000 in
theorem plays_bad (w : World) (dl : Int) (h : dl < 0 ∨ 64 < dl) (A : Option Addr) (n c : Nat) :
    Calls Try.prog 4 #[.int .i64 dl, .slice A n c] w fun e w' => e = .returned (.bool true) ∧ Below w.heap.size w w' := by
  have HN := Lib.hid (new_bad w dl h)
  have HR := Lib.hid (fun w => rnew_bad w dl h)
  clear h
  go_enter Try.func4, Try.ntmps4
  go_wp2_with (first
    | (go_at_call 7; refine HN.out.mono ?_; rintro e w' ⟨rfl, rfl⟩)
    | (go_at_call 13; refine (HR.out _).mono ?_; rintro e w1 ⟨rfl, hb1⟩)
    | (go_at_call 8; refine (awake_any _).mono ?_; rintro e w2 ⟨rfl, hb2⟩))
  go_ret
  exact ⟨rfl, (hb1.alloc hb1.size _).trans (hb2.mono (hb1.alloc hb1.size (.cells #[.int .i64 0, .slice none 0 0] 38)).size)⟩

/-- what the round has: the two lines, and the box of the document's one -/
def Rnd (w0 : World) (g : Nat) (dl : Int) (r : Nat) (lo hi : Int) (A : Option Addr) (n c : Nat) (w : World) : Prop :=
  ∃ nw P D p due, Both w0 g dl nw n P D p due A n c (ways nw p due) w ∧ Off r g P D A n ∧ n ≤ 65536 ∧ lo ≤ nw ∧ nw ≤ hi ∧ (∀ d ∈ due, d ≤ nw + 64)
theorem Rnd.grow {w0 : World} {g : Nat} {dl : Int} {r : Nat} {lo hi : Int} {A : Option Addr} {n c : Nat} {w w' : World} (h : Rnd w0 g dl r lo hi A n c w) (hb : Below w.heap.size w w') : Rnd w0 g dl r lo hi A n c w' := by
  obtain ⟨nw, P, D, p, due, h1, h2, h3⟩ := h
  exact ⟨nw, P, D, p, due, h1.grow hb, h2, h3⟩
theorem Rnd.low {w0 : World} {g : Nat} {dl : Int} {r : Nat} {lo hi : Int} {A : Option Addr} {n c : Nat} {w : World} (h : Rnd w0 g dl r lo hi A n c w) : Below w0.heap.size w0 w := by
  obtain ⟨nw, P, D, p, due, h1, _⟩ := h
  exact h1.bel

abbrev slt (a : Act) (d : Nat) : Value := a.tmps[d]?.getD undef
/-- what a call of play gives -/
def tupV (dl : Int) (A2 : Option Addr) (n2 c2 : Nat) : Value := .tuple #[.agg #[.int .i64 dl, .slice A2 n2 c2], .bool true]
/-- what holds on the way through the region with play's call -/
structure LJ (w wr : World) (g : Nat) (dl : Int) (k : Nat) (P D : Value) (A' : Option Addr) (n' c' r : Nat) (a : Act) (L : Free.Done) (w' : World) : Prop where
  bx : w'.heap[r]? = some (lbox dl (.slice A' n' c'))
  pre : L 6 = false → Below wr.heap.size wr w'
  kp : Kept (LnS g P D) wr w'
  al : L 10 = true → ∃ b, slt a 10 = .pointer (some ⟨b, 0, none⟩) ∧ wr.heap.size ≤ b ∧ ∃ x y, w'.heap[b]? = some (.cells #[x, y] 38 (0, 0))
  st : L 6 = true → ∃ A2 n2 c2 nw2 P2 D2 p2 due2, slt a 59 = tupV dl A2 n2 c2 ∧ Both w g dl nw2 n2 P2 D2 p2 due2 A2 n2 c2 (ways nw2 p2 due2) w' ∧ Off r g P2 D2 A2 n2 ∧ n2 ≤ 65536 ∧ 0 ≤ nw2 ∧ nw2 ≤ (k : Int) + 1 ∧ (∀ d ∈ due2, d ≤ nw2 + 64) ∧
    (L 8 = true → slt a 60 = .agg #[.int .i64 dl, .slice A2 n2 c2]) ∧ (L 10 = true → ∀ b, slt a 10 = .pointer (some ⟨b, 0, none⟩) → Off b g P2 D2 A2 n2) ∧ (L 11 = true → ∀ b, slt a 10 = .pointer (some ⟨b, 0, none⟩) → w'.heap[b]? = some (lbox dl (.slice A2 n2 c2)))
  e52 : L 7 = true → slt a 52 = slt a 59
  e61 : L 9 = true → slt a 61 = .bool true
theorem slt_put {a : Act} {d s : Nat} {v : Value} (h : s ≠ d) : slt (a.put (some d) v) s = slt a s := by
  have := Free.getD_put a (some d) v s
  rw [if_neg (by intro e; injection e.1 with e; exact h e.symm)] at this
  simpa [slt, Array.getD_eq_getD_getElem?] using this
theorem slt_put' {a : Act} {d : Nat} {v : Value} (h : d < a.tmps.size) : slt (a.put (some d) v) d = v := by
  have := Free.getD_put a (some d) v d
  rw [if_pos ⟨rfl, h⟩] at this
  simpa [slt, Array.getD_eq_getD_getElem?] using this
theorem upd_ne {L : Free.Done} {i j : Nat} (h : j ≠ i) : Free.upd L i j = L j := by simp [Free.upd, h]
theorem upd_eq {L : Free.Done} {i : Nat} : Free.upd L i i = true := by simp [Free.upd]
section
variable {w wr : World} {g : Nat} {dl : Int} {k : Nat} {P D : Value} {A' : Option Addr} {n' c' r : Nat} {a : Act} {L : Free.Done} {w' : World}
theorem LJ.other (h : LJ w wr g dl k P D A' n' c' r a L w') {d : Nat} {v : Value} {i : Nat} (hd : d ≠ 10 ∧ d ≠ 52 ∧ d ≠ 59 ∧ d ≠ 60 ∧ d ≠ 61) (hi : i < 6 ∨ 11 < i) : LJ w wr g dl k P D A' n' c' r (a.put (some d) v) (Free.upd L i) w' := by
  obtain ⟨d1, d2, d3, d4, d5⟩ := hd
  have e10 : slt (a.put (some d) v) 10 = slt a 10 := slt_put (Ne.symm d1)
  have e52 : slt (a.put (some d) v) 52 = slt a 52 := slt_put (Ne.symm d2)
  have e59 : slt (a.put (some d) v) 59 = slt a 59 := slt_put (Ne.symm d3)
  have e60 : slt (a.put (some d) v) 60 = slt a 60 := slt_put (Ne.symm d4)
  have e61 : slt (a.put (some d) v) 61 = slt a 61 := slt_put (Ne.symm d5)
  have u6 : Free.upd L i 6 = L 6 := upd_ne (by omega)
  have u7 : Free.upd L i 7 = L 7 := upd_ne (by omega)
  have u8 : Free.upd L i 8 = L 8 := upd_ne (by omega)
  have u9 : Free.upd L i 9 = L 9 := upd_ne (by omega)
  have u10 : Free.upd L i 10 = L 10 := upd_ne (by omega)
  have u11 : Free.upd L i 11 = L 11 := upd_ne (by omega)
  refine ⟨h.bx, by rw [u6]; exact h.pre, h.kp, by rw [u10, e10]; exact h.al, by rw [u6, u8, u10, u11, e59, e60, e10]; exact h.st, by rw [u7, e52, e59]; exact h.e52, by rw [u9, e61]; exact h.e61⟩
end

set_option maxHeartbeats 4000000 in
set_option maxRecDepth 100000 in
theorem plays_good (w : World) (dl : Int) (hd0 : 0 ≤ dl) (hd1 : dl ≤ 64) (A : Option Addr) (n c : Nat) (hA : RdA w A n) (hn : n ≤ 9223372036854775807) :
    Calls Try.prog 4 #[.int .i64 dl, .slice A n c] w fun e w' => e = .returned (.bool true) ∧ Below w.heap.size w w' := by
  have HA := Lib.hid hA
  clear hA
  go_enter Try.func4, Try.ntmps4
  go_wp2_with (go_at_call 7; refine (new_ok _ dl hd0 hd1).mono ?_; rintro e w1 ⟨rfl, H1, hb1⟩)
  refine (rnew_ok _ dl hd0 hd1).mono ?_
  rintro e w2 ⟨rfl, hb2⟩
  have HR0 := Lib.hid (show Rnd w w.heap.size dl w2.heap.size 0 0 none 0 0 (w2.alloc (lbox dl (.slice none 0 0))) from by
    refine ⟨0, _, _, [], [], ⟨(H1.below hb2).below ((Below.refl _ _).alloc (Nat.le_refl _) _), RdC.nil _ _ _ _, rfl, fun h => absurd h (by omega), ?_⟩, ⟨?_, fun h => absurd h (by omega)⟩, by omega, by omega, by omega, by simp⟩
    · exact (hb1.trans (hb2.mono hb1.size)).alloc (Nat.le_trans hb1.size hb2.size) _
    · have hl := H1.lt
      have hl2 := hb2.size
      rintro i (rfl | e | e)
      · omega
      · cases e
      · cases e)
  have HV0 := Lib.hid (show (w2.alloc (lbox dl (.slice none 0 0))).heap[w2.heap.size]? = some (lbox dl (.slice none 0 0)) from heap_alloc_new _ _)
  have hs2 : w.heap.size < w2.heap.size := Nat.lt_of_lt_of_le H1.lt hb2.size
  clear H1 hb1 hb2
  go_wp2_with fail
  go_loopw [9] (fun i wr => ∃ (k : Nat) (A' : Option Addr) (n' c' : Nat), k ≤ n ∧ k ≤ 100 ∧ i = .int .i64 k ∧ Rnd w w.heap.size dl w2.heap.size 0 k A' n' c' wr ∧ wr.heap[w2.heap.size]? = some (lbox dl (.slice A' n' c'))) (fun i _ => n - (intOf i).toNat)
  case atStart => exact ⟨0, none, 0, 0, Nat.zero_le _, by omega, rfl, HR0.out, HV0.out⟩
  case round =>
    obtain ⟨k, A', n', c', hk, hk100, rfl, hR, hV⟩ := hrel
    have HV := Lib.hid hV
    have HRR := Lib.hid hR
    clear hR hV
    by_cases hkn : k < n
    · by_cases hk1 : k < 100
      · obtain ⟨b, off, rfl, hblt, hc⟩ := (HA.out.below HRR.out.low) (by omega)
        obtain ⟨i0, i1, i2, Aa, na, ca, q0, q1, q2, q3, q4⟩ := hc k hkn
        have Q4 := Lib.hid q4
        clear hc q4
        by_cases hbig : 3000 < na
        · have t3 : decide ((3000 : Int) < na) = true := by simp; omega
          go_wp2
          go_roundw
          case rel =>
            obtain ⟨nw, P, D, p, due, h1, h2, h3, h4, h5, h6⟩ := HRR.out
            exact ⟨k + 1, A', n', c', by omega, by omega, by go_num, ⟨nw, P, D, p, due, h1, h2, h3, h4, by omega, h6⟩, HV.out⟩
          case measure => simp [intOf]; omega
        · have t3 : decide ((3000 : Int) < na) = false := by simp; omega
          obtain ⟨nw, P, D, p, due, hB, hO, hn6, hlo, hhi, hdue⟩ := HRR.out
          obtain ⟨l, hl⟩ := Q4.out (by omega)
          have HB := Lib.hid hB
          have HO := Lib.hid hO
          have HDUE := Lib.hid hdue
          have HL := Lib.hid hl
          have hlow := hB.low
          clear hB hO hdue hl
          have hrlt : w2.heap.size < wr.heap.size := (Array.getElem?_eq_some_iff.1 HV.out).1
          have hwr := HB.out.bel.size
          go_wp2_with fail
          refine Free.wp_seq4 (I := fun a L w' => LJ w wr w.heap.size dl k P D A' n' c' w2.heap.size a L w') (Gr := fun _ _ _ => True) (by kernel_rfl) (by kernel_rfl) ⟨HV.out, fun _ => (Below.refl _ _).drew, (Kept.refl _ _).drew, fun h => absurd h (by decide), fun h => absurd h (by decide), fun h => absurd h (by decide), fun h => absurd h (by decide)⟩ ?_
          refine Free.Seq4.val ?_ (fun _ => trivial) (fun a L w v h => h.other (by decide) (by simp)) (fun a w3 L hI hp => ?_) ?_
          rotate_left
          · have e5 := hp.slotV 5 (by kernel_rfl) rfl; simp at e5
            refine ⟨Free.want_none rfl, ?_⟩
            clear hp
            go_simp
            rfl
          refine Free.Seq4.val ?_ (fun _ => trivial) (fun a L w v h => h.other (by decide) (by simp)) (fun a w3 L hI hp => ?_) ?_
          rotate_left
          · have e7 := hp.slotV 7 (by kernel_rfl) rfl; simp at e7
            have v0 := cell_of_cells hI.bx 0
            have v1 := cell_of_cells hI.bx 1
            refine ⟨Free.want_none rfl, ?_⟩
            clear hp
            go_simp
            rfl
          refine Free.Seq4.val ?_ (fun _ => trivial) (fun a L w v h => h.other (by decide) (by simp)) (fun a w3 L hI hp => ?_) ?_
          rotate_left
          · have e1 := hp.slotV 1 (by kernel_rfl) rfl; simp at e1
            refine ⟨Free.want_none rfl, ?_⟩
            clear hp
            go_simp
            rfl
          refine Free.Seq4.val ?_ (fun _ => trivial) (fun a L w v h => h.other (by decide) (by simp)) (fun a w3 L hI hp => ?_) ?_
          rotate_left
          · have e9 := hp.slotV 9 (by kernel_rfl) rfl; simp at e9
            refine ⟨Free.want_none rfl, ?_⟩
            clear hp
            go_simp
            rfl
          refine Free.Seq4.val ?_ (fun _ => trivial) (fun a L w v h => h.other (by decide) (by simp)) (fun a w3 L hI hp => ?_) ?_
          rotate_left
          · have e55 := hp.backV 2 1 rfl rfl rfl rfl rfl; have e56 := hp.backV 3 0 rfl rfl rfl rfl rfl
            refine ⟨Free.want_none rfl, ?_⟩
            clear hp
            go_simp
            rfl
          refine Free.Seq4.val ?_ (fun _ => trivial) (fun a L w v h => h.other (by decide) (by simp)) (fun a w3 L hI hp => ?_) ?_
          rotate_left
          · have e57 := hp.backV 4 0 rfl rfl rfl rfl rfl
            have hpre := hI.pre (hp.up 6 30 (by kernel_rfl))
            have d0 := (hpre.cell (p := ⟨b, off + k * 4, none⟩) hblt).trans q0
            have d1 := (hpre.cell (p := ⟨b, off + k * 4 + 1, none⟩) hblt).trans q1
            have d2 := (hpre.cell (p := ⟨b, off + k * 4 + 2, none⟩) hblt).trans q2
            have d3 := (hpre.cell (p := ⟨b, off + k * 4 + 3, none⟩) hblt).trans q3
            refine ⟨Free.want_none rfl, ?_⟩
            clear hp
            go_simp
            rfl
          refine Free.Seq4.call (T := fun _ _ => True) (fun _ _ _ _ _ _ _ _ => trivial) (fun a w3 L hI hp => ?_) ?_
          · have e53 := hp.backV 0 5 rfl rfl rfl rfl rfl; have e54 := hp.backV 1 4 rfl rfl rfl rfl rfl; have e58 := hp.backV 5 0 rfl rfl rfl rfl rfl
            have hpre := hI.pre hp.fresh
            have hB3 := HB.out.grow hpre
            have h59 : 59 < a.tmps.size := by rw [hp.size]; simp
            refine ⟨Free.want_none rfl, 14, #[.pointer (some ⟨w.heap.size, 0, none⟩), .agg #[.int .i64 dl, .slice A' n' c'], .agg #[.int .i64 i0, .int .i64 i1, .int .i64 i2, .slice Aa na ca]], ?_, ?_⟩
            · clear hp
              go_simp
            · refine (play_any hB3 hn6 HDUE.out hlo (by omega) hd0 hd1 i0 i1 i2 Aa na ca l (HL.out.below hpre) (by omega)).mono ?_
              rintro e w' ⟨nw2, n2, P2, D2, p2, due2, A2, c2, rfl, h1, h2, h3, h4, h5, h6, h7⟩
              have hsz := hpre.size
              have u8 : Free.upd L 6 8 = false := (upd_ne (by decide)).trans (hp.up 8 30 (by kernel_rfl))
              have u7 : Free.upd L 6 7 = false := (upd_ne (by decide)).trans (hp.up 7 30 (by kernel_rfl))
              have u9 : Free.upd L 6 9 = false := (upd_ne (by decide)).trans (hp.up 9 30 (by kernel_rfl))
              have u11 : Free.upd L 6 11 = false := (upd_ne (by decide)).trans (hp.up 11 30 (by kernel_rfl))
              have u10 : Free.upd L 6 10 = L 10 := upd_ne (by decide)
              have e10 : ∀ v, slt (a.put (some 59) v) 10 = slt a 10 := fun v => slt_put (by decide)
              refine ⟨_, rfl, trivial, trivial, ?_⟩
              simp only [List.length_cons, List.length_nil, Nat.reduceAdd]
              refine ⟨(h6.block _ (by omega) (fun hs => HO.out.l _ hs rfl)).trans hI.bx, fun h => absurd h (by rw [upd_eq]; decide), hI.kp.trans h6 (fun _ _ e => e), ?_, fun _ => ?_, fun h => absurd h (by rw [u7]; decide), fun h => absurd h (by rw [u9]; decide)⟩
              · rw [u10, e10]
                intro h
                obtain ⟨b, hb1, hb2, x, y, hb3⟩ := hI.al h
                exact ⟨b, hb1, hb2, x, y, (h6.block b (Array.getElem?_eq_some_iff.1 hb3).1 (fun hs => by have := hlow b hs; omega)).trans hb3⟩
              · refine ⟨A2, n2, c2, nw2, P2, D2, p2, due2, slt_put' h59, h1, h7 _ (by omega) HO.out, h2, by omega, by omega, h5, fun h => absurd h (by rw [u8]; decide), ?_, fun h => absurd h (by rw [u11]; decide)⟩
                rw [u10, e10]
                intro h b hb
                obtain ⟨b', hb1, hb2, x, y, hb3⟩ := hI.al h
                rw [hb] at hb1
                injection hb1 with hb1
                injection hb1 with hb1
                injection hb1 with hb1 _
                subst hb1
                exact h7 b (Array.getElem?_eq_some_iff.1 hb3).1 (HB.out.off hb2)
          refine Free.Seq4.op (T := fun _ _ => True) (fun _ _ _ _ _ _ _ _ => trivial) (fun a w3 L hI hp => ?_) ?_
          · skip
            have u6 : Free.upd L 7 6 = L 6 := upd_ne (by decide)
            have u7 : Free.upd L 7 7 = true := upd_eq
            have u8 : Free.upd L 7 8 = L 8 := upd_ne (by decide)
            have u9 : Free.upd L 7 9 = L 9 := upd_ne (by decide)
            have u10 : Free.upd L 7 10 = L 10 := upd_ne (by decide)
            have u11 : Free.upd L 7 11 = L 11 := upd_ne (by decide)
            have e10 : ∀ v, slt (a.put (some 52) v) 10 = slt a 10 := fun v => slt_put (by decide)
            have e59 : ∀ v, slt (a.put (some 52) v) 59 = slt a 59 := fun v => slt_put (by decide)
            have e60 : ∀ v, slt (a.put (some 52) v) 60 = slt a 60 := fun v => slt_put (by decide)
            have e61 : ∀ v, slt (a.put (some 52) v) 61 = slt a 61 := fun v => slt_put (by decide)
            have hsz : 52 < a.tmps.size := by rw [hp.size]; simp
            refine ⟨Free.want_none rfl, slt a 59, w3, ?_, trivial, trivial, ?_⟩
            · clear hp
              go_simp
            · simp only [List.length_cons, List.length_nil, Nat.reduceAdd]
              exact ⟨hI.bx, by rw [u6]; exact hI.pre, hI.kp, by rw [u10, e10]; exact hI.al, by rw [u6, u8, u10, u11, e59, e60, e10]; exact hI.st, by rw [e59, slt_put' hsz]; exact fun _ => rfl, by rw [u9, e61]; exact hI.e61⟩
          refine Free.Seq4.op (T := fun _ _ => True) (fun _ _ _ _ _ _ _ _ => trivial) (fun a w3 L hI hp => ?_) ?_
          · skip
            have u6 : Free.upd L 8 6 = L 6 := upd_ne (by decide)
            have u7 : Free.upd L 8 7 = L 7 := upd_ne (by decide)
            have u8 : Free.upd L 8 8 = true := upd_eq
            have u9 : Free.upd L 8 9 = L 9 := upd_ne (by decide)
            have u10 : Free.upd L 8 10 = L 10 := upd_ne (by decide)
            have u11 : Free.upd L 8 11 = L 11 := upd_ne (by decide)
            have e10 : ∀ v, slt (a.put (some 60) v) 10 = slt a 10 := fun v => slt_put (by decide)
            have e52 : ∀ v, slt (a.put (some 60) v) 52 = slt a 52 := fun v => slt_put (by decide)
            have e59 : ∀ v, slt (a.put (some 60) v) 59 = slt a 59 := fun v => slt_put (by decide)
            have e61 : ∀ v, slt (a.put (some 60) v) 61 = slt a 61 := fun v => slt_put (by decide)
            have hsz : 60 < a.tmps.size := by rw [hp.size]; simp
            obtain ⟨A2, n2, c2, nw2, P2, D2, p2, due2, s1, s2, s3, s4, s5, s6, s7, s8, s9, s10⟩ := hI.st (hp.did 6 30 (by kernel_rfl))
            have h52 : a.tmps[52]?.getD undef = .tuple #[.agg #[.int .i64 dl, .slice A2 n2 c2], .bool true] := (hI.e52 (hp.did 7 30 (by kernel_rfl))).trans s1
            refine ⟨Free.want_none rfl, .agg #[.int .i64 dl, .slice A2 n2 c2], w3, ?_, trivial, trivial, ?_⟩
            · clear hp
              go_simp
            · simp only [List.length_cons, List.length_nil, Nat.reduceAdd]
              exact ⟨hI.bx, by rw [u6]; exact hI.pre, hI.kp, by rw [u10, e10]; exact hI.al, fun _ => ⟨A2, n2, c2, nw2, P2, D2, p2, due2, by rw [e59]; exact s1, s2, s3, s4, s5, s6, s7, by rw [slt_put' hsz]; exact fun _ => rfl, by rw [u10, e10]; exact s9, by rw [u11, e10]; exact s10⟩, by rw [u7, e52, e59]; exact hI.e52, by rw [u9, e61]; exact hI.e61⟩
          refine Free.Seq4.op (T := fun _ _ => True) (fun _ _ _ _ _ _ _ _ => trivial) (fun a w3 L hI hp => ?_) ?_
          · skip
            have u6 : Free.upd L 9 6 = L 6 := upd_ne (by decide)
            have u7 : Free.upd L 9 7 = L 7 := upd_ne (by decide)
            have u8 : Free.upd L 9 8 = L 8 := upd_ne (by decide)
            have u9 : Free.upd L 9 9 = true := upd_eq
            have u10 : Free.upd L 9 10 = L 10 := upd_ne (by decide)
            have u11 : Free.upd L 9 11 = L 11 := upd_ne (by decide)
            have e10 : ∀ v, slt (a.put (some 61) v) 10 = slt a 10 := fun v => slt_put (by decide)
            have e52 : ∀ v, slt (a.put (some 61) v) 52 = slt a 52 := fun v => slt_put (by decide)
            have e59 : ∀ v, slt (a.put (some 61) v) 59 = slt a 59 := fun v => slt_put (by decide)
            have e60 : ∀ v, slt (a.put (some 61) v) 60 = slt a 60 := fun v => slt_put (by decide)
            have hsz : 61 < a.tmps.size := by rw [hp.size]; simp
            obtain ⟨A2, n2, c2, nw2, P2, D2, p2, due2, s1, s2, s3, s4, s5, s6, s7, s8, s9, s10⟩ := hI.st (hp.did 6 30 (by kernel_rfl))
            have h52 : a.tmps[52]?.getD undef = .tuple #[.agg #[.int .i64 dl, .slice A2 n2 c2], .bool true] := (hI.e52 (hp.did 7 30 (by kernel_rfl))).trans s1
            refine ⟨Free.want_none rfl, .bool true, w3, ?_, trivial, trivial, ?_⟩
            · clear hp
              go_simp
            · simp only [List.length_cons, List.length_nil, Nat.reduceAdd]
              exact ⟨hI.bx, by rw [u6]; exact hI.pre, hI.kp, by rw [u10, e10]; exact hI.al, by rw [u6, u8, u10, u11, e59, e60, e10]; exact hI.st, by rw [u7, e52, e59]; exact hI.e52, by rw [slt_put' hsz]; exact fun _ => rfl⟩
          refine Free.Seq4.op (T := fun _ _ => True) (fun _ _ _ _ _ _ _ _ => trivial) (fun a w3 L hI hp => ?_) ?_
          · skip
            have u6 : Free.upd L 10 6 = L 6 := upd_ne (by decide)
            have u7 : Free.upd L 10 7 = L 7 := upd_ne (by decide)
            have u8 : Free.upd L 10 8 = L 8 := upd_ne (by decide)
            have u9 : Free.upd L 10 9 = L 9 := upd_ne (by decide)
            have u10 : Free.upd L 10 10 = true := upd_eq
            have u11 : Free.upd L 10 11 = L 11 := upd_ne (by decide)
            have e52 : ∀ v, slt (a.put (some 10) v) 52 = slt a 52 := fun v => slt_put (by decide)
            have e59 : ∀ v, slt (a.put (some 10) v) 59 = slt a 59 := fun v => slt_put (by decide)
            have e60 : ∀ v, slt (a.put (some 10) v) 60 = slt a 60 := fun v => slt_put (by decide)
            have e61 : ∀ v, slt (a.put (some 10) v) 61 = slt a 61 := fun v => slt_put (by decide)
            have hsz : 10 < a.tmps.size := by rw [hp.size]; simp
            have hbl : Below w3.heap.size w3 (w3.alloc lres) := (Below.refl _ _).alloc (Nat.le_refl _) _
            have hwl := hI.kp.size
            have hf11 := hp.up 11 30 (by kernel_rfl)
            refine ⟨Free.want_none rfl, .pointer (some ⟨w3.heap.size, 0, none⟩), w3.alloc lres, ?_, trivial, trivial, ?_⟩
            · clear hp
              go_simp
            · simp only [List.length_cons, List.length_nil, Nat.reduceAdd]
              refine ⟨(hbl.block _ (Array.getElem?_eq_some_iff.1 hI.bx).1).trans hI.bx, by rw [u6]; exact fun h => (hI.pre h).trans (hbl.mono hwl), hI.kp.alloc _, fun _ => ⟨w3.heap.size, slt_put' hsz, hwl, _, _, heap_alloc_new _ _⟩, ?_, by rw [u7, e52, e59]; exact hI.e52, by rw [u9, e61]; exact hI.e61⟩
              rw [u6, u8, u11, e59, e60]
              intro h
              obtain ⟨A2, n2, c2, nw2, P2, D2, p2, due2, s1, s2, s3, s4, s5, s6, s7, s8, s9, s10⟩ := hI.st h
              refine ⟨A2, n2, c2, nw2, P2, D2, p2, due2, s1, s2.grow hbl, s3, s4, s5, s6, s7, s8, fun _ b hb => ?_, fun h => absurd h (by rw [hf11]; decide)⟩
              rw [slt_put' hsz] at hb
              injection hb with hb
              injection hb with hb
              injection hb with hb _
              subst hb
              exact s2.off (Nat.le_refl _)
          refine Free.Seq4.skip rfl (fun _ => True) (fun _ _ _ _ _ _ _ => trivial) (fun a w3 L hI hp => ?_) ?_
          · skip
            have u6 : Free.upd L 11 6 = L 6 := upd_ne (by decide)
            have u7 : Free.upd L 11 7 = L 7 := upd_ne (by decide)
            have u8 : Free.upd L 11 8 = L 8 := upd_ne (by decide)
            have u9 : Free.upd L 11 9 = L 9 := upd_ne (by decide)
            have u10 : Free.upd L 11 10 = L 10 := upd_ne (by decide)
            have u11 : Free.upd L 11 11 = true := upd_eq
            obtain ⟨A2, n2, c2, nw2, P2, D2, p2, due2, s1, s2, s3, s4, s5, s6, s7, s8, s9, s10⟩ := hI.st (hp.did 6 30 (by kernel_rfl))
            have h60 : a.tmps[60]?.getD undef = .agg #[.int .i64 dl, .slice A2 n2 c2] := s8 (hp.did 8 30 (by kernel_rfl))
            have l10 := hp.did 10 30 (by kernel_rfl)
            obtain ⟨b, hb1, hb2, x0, y0, hb3⟩ := hI.al l10
            have h10 : a.tmps[10]?.getD undef = .pointer (some ⟨b, 0, none⟩) := hb1
            have r0 : w3.cell? ⟨b, 0, none⟩ = some x0 := by rw [cell_of_cells hb3]; rfl
            have r1 : w3.cell? ⟨b, 1, none⟩ = some y0 := by rw [cell_of_cells hb3]; rfl
            have f0 : w3.frozen? ⟨b, 0, none⟩ = false := frozen_of_row w3 _ 0 _ _ hb3
            have f1 : w3.frozen? ⟨b, 1, none⟩ = false := frozen_of_row w3 _ 1 _ _ hb3
            have hof := s9 l10 b hb1
            have hk2 := kept2 w3 b (.int .i64 dl) (.slice A2 n2 c2)
            have hnew : ((w3.setCell ⟨b, 0, none⟩ (.int .i64 dl)).setCell ⟨b, 1, none⟩ (.slice A2 n2 c2)).heap[b]? = some (lbox dl (.slice A2 n2 c2)) := heap_setCell_same _ _ 1 _ _ _ (heap_setCell_same _ _ 0 _ _ _ hb3)
            have hI' : LJ w wr w.heap.size dl k P D A' n' c' w2.heap.size a (Free.upd L 11) ((w3.setCell ⟨b, 0, none⟩ (.int .i64 dl)).setCell ⟨b, 1, none⟩ (.slice A2 n2 c2)) := by
              refine ⟨(hk2.block _ (Array.getElem?_eq_some_iff.1 hI.bx).1 (by omega)).trans hI.bx, by rw [u6]; exact fun h => absurd (h.symm.trans (hp.did 6 30 (by kernel_rfl))) (by decide), hI.kp.trans hk2 (fun i hi e => by omega), fun _ => ⟨b, hb1, hb2, _, _, hnew⟩, fun _ => ?_, by rw [u7]; exact hI.e52, by rw [u9]; exact hI.e61⟩
              refine ⟨A2, n2, c2, nw2, P2, D2, p2, due2, s1, s2.keep1 hof (by omega) hk2, s3, s4, s5, s6, s7, by rw [u8]; exact s8, by rw [u10]; exact s9, fun _ b' hb' => ?_⟩
              rw [hb1] at hb'
              injection hb' with hb'
              injection hb' with hb'
              injection hb' with hb' _
              subst hb'
              exact hnew
            refine ⟨Free.want_none rfl, (w3.setCell ⟨b, 0, none⟩ (.int .i64 dl)).setCell ⟨b, 1, none⟩ (.slice A2 n2 c2), ?_, trivial, trivial, hI'⟩
            clear hp hI' hI s1 s2 s3 s4 s5 s6 s7 s8 s9 s10 hof hk2 hnew hb3
            go_simp
          refine Free.Seq4.val ?_ (fun _ => trivial) (fun a L w v h => h.other (by decide) (by simp)) (fun a w3 L hI hp => ?_) ?_
          rotate_left
          · skip
            have e61 := hI.e61 (hp.did 9 30 (by kernel_rfl))
            refine ⟨Free.want_none rfl, ?_⟩
            clear hp
            go_simp
            rfl
          refine Free.Seq4.done (by simp) (fun wz L hLz => ?_)
          simp only [List.reverse_cons, List.reverse_nil, List.nil_append, List.cons_append, Free.All, Free.eqF, forall_eq]
          rintro v59 - v52 - v60 - v61 - v10 - vS - hIz
          simp only [Free.putL, Act.put, List.setIfInBounds_toArray, List.set_cons_zero, List.set_cons_succ]
          simp only [Free.putL, Act.put, List.setIfInBounds_toArray, List.set_cons_zero, List.set_cons_succ] at hIz
          obtain ⟨bb, e10, hbb, x0, y0, hb3⟩ := hIz.al (hLz 10 (by decide))
          obtain ⟨A2, n2, c2, nw2, P2, D2, p2, due2, s1, s2, s3, s4, s5, s6, s7, s8, s9, s10⟩ := hIz.st (hLz 6 (by decide))
          have hbv := s10 (hLz 11 (by decide)) bb e10
          have hv10 : v10 = .pointer (some ⟨bb, 0, none⟩) := e10
          have hbx := hIz.bx
          clear e10 s1 s8 s9 s10 hIz hLz hb3
          subst hv10
          have v0 := cell_of_cells hbv 0
          have v1 := cell_of_cells hbv 1
          have r0 := cell_of_cells hbx 0
          have r1 := cell_of_cells hbx 1
          have f0 : wz.frozen? ⟨w2.heap.size, 0, none⟩ = false := frozen_of_row wz _ 0 _ _ hbx
          have f1 : wz.frozen? ⟨w2.heap.size, 1, none⟩ = false := frozen_of_row wz _ 1 _ _ hbx
          have hnew : ((wz.setCell ⟨w2.heap.size, 0, none⟩ (.int .i64 dl)).setCell ⟨w2.heap.size, 1, none⟩ (.slice A2 n2 c2)).heap[w2.heap.size]? = some (lbox dl (.slice A2 n2 c2)) := heap_setCell_same _ _ 1 _ _ _ (heap_setCell_same _ _ 0 _ _ _ hbx)
          have hB9 := s2.keep1 s3 (by omega) (kept2 wz w2.heap.size (.int .i64 dl) (.slice A2 n2 c2))
          have HB9 := Lib.hid hB9
          have HN9 := Lib.hid hnew
          have HO9 := Lib.hid s3
          have HD9 := Lib.hid s7
          clear hbv hbx hnew hB9 s2 s3 s7
          go_wp2_with fail
          obtain ⟨wy, hwy⟩ : ∃ wy, wy = (wz.setCell ⟨w2.heap.size, 0, none⟩ (.int .i64 dl)).setCell ⟨w2.heap.size, 1, none⟩ (.slice A2 n2 c2) := ⟨_, rfl⟩
          rw [← hwy] at HB9 HN9
          simp only [← hwy]
          clear hwy r0 r1 f0 f1 v0 v1
          have y0 := cell_of_cells HN9.out 0
          have y1 := cell_of_cells HN9.out 1
          have hrl : w2.heap.size < wy.heap.size := (Array.getElem?_eq_some_iff.1 HN9.out).1
          have hfst : (ways nw2 p2 due2).map Prod.fst = p2 := ways_fst (by rw [HB9.out.ln.plen, HB9.out.ln.dlen])
          have HFST := Lib.hid hfst
          have hpl2 := Lib.hid HB9.out.ln.plen
          clear hfst
          refine Free.wp_seq (I := fun w' => Below wy.heap.size wy w') (Gr := fun w1 w2 => Below w1.heap.size w1 w2) (by kernel_rfl) (by kernel_rfl) (Below.refl _ _).drew ?_
          refine Free.Seq.val ?_ (fun _ => Below.refl _ _) (fun a w1 hI hp => ?_) ?_
          rotate_left
          · have e11 := hp.slotV 11 (by kernel_rfl) rfl; simp at e11
            refine ⟨Free.want_none rfl, ?_⟩
            clear hp
            go_simp
            rfl
          refine Free.Seq.val ?_ (fun _ => Below.refl _ _) (fun a w1 hI hp => ?_) ?_
          rotate_left
          · have e63 := hp.backV 0 0 rfl rfl rfl rfl rfl
            refine ⟨Free.want_none rfl, ?_⟩
            clear hp
            go_simp
            rfl
          refine Free.Seq.val ?_ (fun _ => Below.refl _ _) (fun a w1 hI hp => ?_) ?_
          rotate_left
          · have e64 := hp.backV 1 0 rfl rfl rfl rfl rfl
            refine ⟨Free.want_none rfl, ?_⟩
            clear hp
            go_simp
            rfl
          refine Free.Seq.val ?_ (fun _ => Below.refl _ _) (fun a w1 hI hp => ?_) ?_
          rotate_left
          · have e65 := hp.backV 2 0 rfl rfl rfl rfl rfl; have e5 := hp.slotV 5 (by kernel_rfl) rfl; simp at e5
            refine ⟨hp.want rfl rfl rfl e65, ?_⟩
            clear hp
            go_simp
            rfl
          refine Free.Seq.call (T := fun v w' => ∃ A' c', v = .slice A' n2 c' ∧ Rd w' A' n2 c' p2) (by rintro v w1 w2 ⟨A', c', rfl, hr⟩ hg; exact ⟨_, _, rfl, hr.below hg⟩) (fun a w1 hI hp => ?_) ?_
          · have e65 := hp.backV 2 1 rfl rfl rfl rfl rfl; have e66 := hp.backV 3 0 rfl rfl rfl rfl rfl
            refine ⟨hp.want rfl rfl rfl e65, 15, #[.pointer (some ⟨w.heap.size, 0, none⟩)], ?_, ?_⟩
            · clear hp
              go_simp
            · refine (bytes_any _ (HB9.out.ln.below hI) (by omega)).mono ?_
              rintro e w' ⟨A', c', rfl, ho, hb⟩
              exact ⟨_, rfl, ⟨A', c', rfl, ho.rd hpl2.out (by omega)⟩, hb, hI.trans (hb.mono hI.size)⟩
          refine Free.Seq.val ?_ (fun _ => Below.refl _ _) (fun a w1 hI hp => ?_) ?_
          rotate_left
          · have e65 := hp.backV 2 2 rfl rfl rfl rfl rfl
            obtain ⟨A', c', e67, hr⟩ := hp.back 4 0 rfl rfl rfl rfl rfl
            have hc := hr.string (P := Try.prog) 28 9 5 Try.underlying28 Try.underlying5 Try.underlying9
            refine ⟨hp.want rfl rfl rfl e65, ?_⟩
            clear hp
            go_simp
            rfl
          refine Free.Seq.val ?_ (fun _ => Below.refl _ _) (fun a w1 hI hp => ?_) ?_
          rotate_left
          · have e65 := hp.backV 2 3 rfl rfl rfl rfl rfl; have e7 := hp.slotV 7 (by kernel_rfl) rfl; simp at e7
            have z0 := (hI.cell (p := ⟨w2.heap.size, 0, none⟩) hrl).trans y0
            have z1 := (hI.cell (p := ⟨w2.heap.size, 1, none⟩) hrl).trans y1
            refine ⟨hp.want rfl rfl rfl e65, ?_⟩
            clear hp
            go_simp
            rfl
          refine Free.Seq.call (T := fun v w' => ∃ A' c', v = .slice A' n2 c' ∧ Rd w' A' n2 c' p2) (by rintro v w1 w2 ⟨A', c', rfl, hr⟩ hg; exact ⟨_, _, rfl, hr.below hg⟩) (fun a w1 hI hp => ?_) ?_
          · have e65 := hp.backV 2 4 rfl rfl rfl rfl rfl; have e69 := hp.backV 6 0 rfl rfl rfl rfl rfl
            refine ⟨hp.want rfl rfl rfl e65, 16, #[.agg #[.int .i64 dl, .slice A2 n2 c2]], ?_, ?_⟩
            · clear hp
              go_simp
            · refine (rbytes_any _ dl A2 n2 c2 (ways nw2 p2 due2) (HB9.out.rd.below hI) HB9.out.wl (by omega)).mono ?_
              rintro e w' ⟨A', c', rfl, ho, hb⟩
              exact ⟨_, rfl, ⟨A', c', rfl, by rw [HFST.out] at ho; exact ho.rd hpl2.out (by omega)⟩, hb, hI.trans (hb.mono hI.size)⟩
          refine Free.Seq.val ?_ (fun _ => Below.refl _ _) (fun a w1 hI hp => ?_) ?_
          rotate_left
          · have e65 := hp.backV 2 5 rfl rfl rfl rfl rfl
            obtain ⟨A', c', e70, hr⟩ := hp.back 7 0 rfl rfl rfl rfl rfl
            have hc := hr.string (P := Try.prog) 28 9 5 Try.underlying28 Try.underlying5 Try.underlying9
            refine ⟨hp.want rfl rfl rfl e65, ?_⟩
            clear hp
            go_simp
            rfl
          refine Free.Seq.val ?_ (fun _ => Below.refl _ _) (fun a w1 hI hp => ?_) ?_
          rotate_left
          · have e65 := hp.backV 2 6 rfl rfl rfl rfl rfl; have e68 := hp.backV 5 3 rfl rfl rfl rfl rfl; have e71 := hp.backV 8 0 rfl rfl rfl rfl rfl
            refine ⟨hp.want rfl rfl rfl e65, ?_⟩
            clear hp
            go_simp
            rfl
          refine Free.Seq.val ?_ (fun _ => Below.refl _ _) (fun a w1 hI hp => ?_) ?_
          rotate_left
          · have e65 := hp.backV 2 7 rfl rfl rfl rfl rfl; have e72 := hp.backV 9 0 rfl rfl rfl rfl rfl
            refine ⟨Free.want_none rfl, ?_⟩
            clear hp
            go_simp
            rfl
          refine Free.Seq.val ?_ (fun _ => Below.refl _ _) (fun a w1 hI hp => ?_) ?_
          rotate_left
          · have e73 := hp.backV 10 0 rfl rfl rfl rfl rfl
            refine ⟨Free.want_none rfl, ?_⟩
            clear hp
            go_simp
            rfl
          refine Free.Seq.val ?_ (fun _ => Below.refl _ _) (fun a w1 hI hp => ?_) ?_
          rotate_left
          · have e74 := hp.backV 11 0 rfl rfl rfl rfl rfl; have e5 := hp.slotV 5 (by kernel_rfl) rfl; simp at e5
            refine ⟨hp.want rfl rfl rfl e74, ?_⟩
            clear hp
            go_simp
            rfl
          refine Free.Seq.call (T := Free.eqF (.int .i64 (n2 : Int))) (fun _ _ _ h _ => h) (fun a w1 hI hp => ?_) ?_
          · have e74 := hp.backV 11 1 rfl rfl rfl rfl rfl; have e75 := hp.backV 12 0 rfl rfl rfl rfl rfl
            refine ⟨hp.want rfl rfl rfl e74, 10, #[.pointer (some ⟨w.heap.size, 0, none⟩)], ?_, ?_⟩
            · clear hp
              go_simp
            · refine (len_any _ (HB9.out.ln.below hI)).mono ?_
              rintro e w' ⟨rfl, rfl⟩
              exact ⟨_, rfl, rfl, Below.refl _ _, hI⟩
          refine Free.Seq.val ?_ (fun _ => Below.refl _ _) (fun a w1 hI hp => ?_) ?_
          rotate_left
          · have e74 := hp.backV 11 2 rfl rfl rfl rfl rfl; have e7 := hp.slotV 7 (by kernel_rfl) rfl; simp at e7
            refine ⟨hp.want rfl rfl rfl e74, ?_⟩
            clear hp
            go_simp
            rfl
          refine Free.Seq.val ?_ (fun _ => Below.refl _ _) (fun a w1 hI hp => ?_) ?_
          rotate_left
          · have e74 := hp.backV 11 3 rfl rfl rfl rfl rfl; have e77 := hp.backV 14 0 rfl rfl rfl rfl rfl
            have z1 := (hI.cell (p := ⟨w2.heap.size, 1, none⟩) hrl).trans y1
            refine ⟨hp.want rfl rfl rfl e74, ?_⟩
            clear hp
            go_simp
            rfl
          refine Free.Seq.val ?_ (fun _ => Below.refl _ _) (fun a w1 hI hp => ?_) ?_
          rotate_left
          · have e74 := hp.backV 11 4 rfl rfl rfl rfl rfl; have e78 := hp.backV 15 0 rfl rfl rfl rfl rfl
            refine ⟨hp.want rfl rfl rfl e74, ?_⟩
            clear hp
            go_simp
            rfl
          refine Free.Seq.val ?_ (fun _ => Below.refl _ _) (fun a w1 hI hp => ?_) ?_
          rotate_left
          · have e74 := hp.backV 11 5 rfl rfl rfl rfl rfl; have e76 := hp.backV 13 3 rfl rfl rfl rfl rfl; have e79 := hp.backV 16 0 rfl rfl rfl rfl rfl
            refine ⟨hp.want rfl rfl rfl e74, ?_⟩
            clear hp
            go_simp
            rfl
          refine Free.Seq.val ?_ (fun _ => Below.refl _ _) (fun a w1 hI hp => ?_) ?_
          rotate_left
          · have e74 := hp.backV 11 6 rfl rfl rfl rfl rfl; have e80 := hp.backV 17 0 rfl rfl rfl rfl rfl
            refine ⟨Free.want_none rfl, ?_⟩
            clear hp
            go_simp
            rfl
          refine Free.Seq.done (by simp) (fun wz hIz => ?_)
          simp only [List.reverse_cons, List.reverse_nil, List.nil_append, List.cons_append, Free.All, Free.eqF, forall_eq]
          rintro x8 - x9 -
          simp only [Free.putL, Act.put, List.setIfInBounds_toArray, List.set_cons_zero, List.set_cons_succ]
          have HREL := Lib.hid (show Rnd w w.heap.size dl w2.heap.size 0 ((k : Int) + 1) A2 n2 c2 wz from ⟨nw2, P2, D2, p2, due2, HB9.out.grow hIz, HO9.out, s4, s5, s6, HD9.out⟩)
          have HVEL := Lib.hid ((hIz.block _ hrl).trans HN9.out)
          clear hIz y0 y1 HB9 HO9 HD9 HN9
          go_wp2
          refine ⟨⟨k + 1, A2, n2, c2, by omega, by omega, by go_num, ?_, HVEL.out⟩, ?_⟩
          · have h := HREL.out
            rwa [show ((k + 1 : Nat) : Int) = (k : Int) + 1 by push_cast; rfl]
          · simp [intOf]
            omega
      · obtain rfl : k = 100 := by omega
        go_wp2_with (go_at_call 8; refine (awake_any _).mono ?_; rintro e w3 ⟨rfl, hb3⟩)
        go_ret
        exact ⟨rfl, HRR.out.low.trans (hb3.mono HRR.out.low.size)⟩
    · obtain rfl : n = k := by omega
      go_wp2_with (go_at_call 8; refine (awake_any _).mono ?_; rintro e w3 ⟨rfl, hb3⟩)
      go_ret
      exact ⟨rfl, HRR.out.low.trans (hb3.mono HRR.out.low.size)⟩
end Go.Proofs.Ytgiboekjjnmnnaa
