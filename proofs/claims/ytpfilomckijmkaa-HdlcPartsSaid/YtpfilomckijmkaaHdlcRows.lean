/-
  HdlcRows: frames one behind the other, with further flags between, are told in order, and nothing else.
-/
import Derived.Test.YtpfilomckijmkaaHdlcLaws
import Derived.Test.YtpfilomckijmkaaHdlcFeeds
import Derived.Test.YtpfilomckijmkaaHdlcEncodes
import Derived.Test.YtpfilomckijmkaaInts
namespace Go.Proofs.Ytpfilomckijmkaa
open Go.RowKit

/-- the contents ws stand as frames in the line L -/
def Hdl.Rows (L : List UInt8) (ws : List (List UInt8)) : Prop := Hdl.feed Hdl.d0 L = (if L = [] then Hdl.d0 else ⟨false, [], ⟨ws.length, 0, 0, 0, 0⟩⟩, ws) ∧ (L = [] → ws = [])
theorem Hdl.Rows.nil : Hdl.Rows [] [] := ⟨rfl, fun _ => rfl⟩
theorem Hdl.Rows.none {L : List UInt8} {ws : List (List UInt8)} (h : Hdl.Rows L ws) (h0 : L = []) : Hdl.feed Hdl.d0 L = (Hdl.d0, []) ∧ ws = [] := by
  have := h.2 h0
  subst this
  exact ⟨by rw [h.1, if_pos h0], rfl⟩
theorem Hdl.Rows.some {L : List UInt8} {ws : List (List UInt8)} (h : Hdl.Rows L ws) (h0 : L ≠ []) : Hdl.feed Hdl.d0 L = (⟨false, [], ⟨ws.length, 0, 0, 0, 0⟩⟩, ws) := by rw [h.1, if_neg h0]
theorem Hdl.Rows.flag {L : List UInt8} {ws : List (List UInt8)} (h : Hdl.Rows L ws) : Hdl.Rows (L ++ [0x7e]) ws := by
  refine ⟨?_, fun e => by simp at e⟩
  rw [if_neg (by simp), Hdl.feed_append]
  by_cases h0 : L = []
  · obtain ⟨h1, h2⟩ := h.none h0
    rw [h1, h2]
    rfl
  · rw [h.some h0]
    simp [Hdl.feed, Hdl.step]
theorem Hdl.Rows.frame {L : List UInt8} {ws : List (List UInt8)} (h : Hdl.Rows L ws) (c : List UInt8) (h1 : 1 ≤ c.length) (h2 : c.length ≤ 128) : Hdl.Rows (L ++ Hdl.frame c) (ws ++ [c]) := by
  refine ⟨?_, fun e => by simp [Hdl.frame] at e⟩
  rw [if_neg (by simp [Hdl.frame]), Hdl.feed_append]
  by_cases h0 : L = []
  · obtain ⟨h3, h4⟩ := h.none h0
    rw [h3, h4]
    simp only [Hdl.feed_frame Hdl.d0 c h1 h2]
    simp [Hdl.step, Hdl.d0, Hdl.count]
  · rw [h.some h0]
    simp only [Hdl.feed_frame _ c h1 h2]
    simp [Hdl.step, Hdl.count]
theorem Hdl.Rows.rest {L : List UInt8} {ws : List (List UInt8)} (h : Hdl.Rows L ws) (hL : L ≠ []) (c : List UInt8) (h1 : 1 ≤ c.length) (h2 : c.length ≤ 128) : Hdl.Rows (L ++ (Hdl.frame c).drop 1) (ws ++ [c]) := by
  refine ⟨?_, fun e => by simp at e; exact absurd e.1 hL⟩
  have e : (Hdl.frame c).drop 1 = Stf.stuff (Crc.added c) ++ [0x7e] := rfl
  rw [if_neg (by simp [hL]), Hdl.feed_append, h.some hL, e]
  simp only [Hdl.feed_rest _ c h1 h2]
  simp [Hdl.count]
theorem Hdl.frame_len (c : List UInt8) (h : c.length ≤ 128) : (Hdl.frame c).length ≤ 262 ∧ 3 ≤ (Hdl.frame c).length := by
  have := Hdl.stuffed_len c h
  have := List.length_pos_iff.2 (Hdl.stuffed_pos c)
  simp only [Hdl.frame, List.length_cons, List.length_append, List.length_nil]
  omega

/-- what is so at a round's head: the line and the contents so far -/
structure RowsI (w0 w1 wr : World) (AL : Option Addr) (nL cL : Nat) (L : List UInt8) (Aw : Option Addr) (nw cw : Nat) (ws : List (List UInt8)) (xs : List Value) : Prop where
  ll : L.length = nL
  wl : ws.length = nw
  line : wr.ownsRow w1.heap.size 5 1 (.slice AL nL cL) nL (bs L)
  want : wr.ownsRow w1.heap.size 25 1 (.slice Aw nw cw) nw xs
  told : xs.length = ws.length ∧ ∀ (j : Nat) (l : List UInt8), ws[j]? = some l → ∃ (A : Option Addr) (n c : Nat), xs[j]? = some (Value.slice A n c) ∧ Rd w0 A n c l
  bel : Below w1.heap.size w1 wr
theorem RowsI.below {w0 w1 wr w2 : World} {AL : Option Addr} {nL cL : Nat} {L : List UInt8} {Aw : Option Addr} {nw cw : Nat} {ws : List (List UInt8)} {xs : List Value} (h : RowsI w0 w1 wr AL nL cL L Aw nw cw ws xs) (hb : Below wr.heap.size wr w2) : RowsI w0 w1 w2 AL nL cL L Aw nw cw ws xs :=
  ⟨h.ll, h.wl, own_below h.line hb, own_below h.want hb, h.told, h.bel.trans (hb.mono h.bel.size)⟩

theorem row_type {w : World} {B size n : Nat} {e : TypeId} {v : Value} {xs : List Value} (h : w.ownsRow B e size v n xs) {k : Nat} (hk : v.ownBlock = some k) : ∃ cur, w.heap[k]? = some (.cells cur e (0, 0)) := by
  rcases h.2 with ⟨rfl, _⟩ | ⟨g, cap, cur, rfl, hb, hh, _⟩
  · simp [Value.ownBlock] at hk
  · simp [Value.ownBlock] at hk
    subst hk
    exact ⟨cur, hh⟩
/-- the line has grown -/
theorem RowsI.grow {w0 w1 wr wa w6 : World} {AL : Option Addr} {nL cL : Nat} {L : List UInt8} {Aw : Option Addr} {nw cw : Nat} {ws : List (List UInt8)} {xs : List Value} (h : RowsI w0 w1 wr AL nL cL L Aw nw cw ws xs) (hb : Below wr.heap.size wr wa)
    {A' : Option Addr} {n' c' : Nat} {L' : List UInt8} (hn : L'.length = n') (ho : w6.ownsRow w1.heap.size 5 1 (.slice A' n' c') n' (bs L')) (hg : wa.grownBy w6 (Value.ownBlock (.slice AL nL cL))) : RowsI w0 w1 w6 A' n' c' L' Aw nw cw ws xs := by
  refine ⟨hn, h.wl, ho, row_keep h.want fun k e => ?_, h.told, ?_⟩
  · have hk := (World.ownsRow.lt h.want k e).2
    have hs := hb.size
    refine (hg.block k (by omega) fun e' => ?_).trans (hb.block k hk)
    obtain ⟨c1, h1⟩ := row_type h.want e
    obtain ⟨c2, h2⟩ := row_type h.line e'.symm
    exact ty_ne h1 h2 (by decide) rfl
  · have := h.bel.size
    have := hb.size
    exact below_app' (h.bel.trans (hb.mono h.bel.size)) (own_below h.line hb) hg (Nat.le_refl _) (by omega)
/-- one more content -/
theorem RowsI.more {w0 w1 wr wa w6 : World} {AL : Option Addr} {nL cL : Nat} {L : List UInt8} {Aw : Option Addr} {nw cw : Nat} {ws : List (List UInt8)} {xs : List Value} (h : RowsI w0 w1 wr AL nL cL L Aw nw cw ws xs) (hb : Below wr.heap.size wr wa)
    {A' : Option Addr} {c' : Nat} {Aq : Option Addr} {nq cq : Nat} {q : List UInt8} (hq : Rd w0 Aq nq cq q) (ho : w6.ownsRow w1.heap.size 25 1 (.slice A' (nw + 1) c') (nw + 1) (xs ++ [.slice Aq nq cq])) (hg : wa.grownBy w6 (Value.ownBlock (.slice Aw nw cw))) : RowsI w0 w1 w6 AL nL cL L A' (nw + 1) c' (ws ++ [q]) (xs ++ [.slice Aq nq cq]) := by
  refine ⟨h.ll, by simp [h.wl], row_keep h.line fun k e => ?_, ho, ⟨by simp [h.told.1], fun j l hj => ?_⟩, ?_⟩
  · have hk := (World.ownsRow.lt h.line k e).2
    have hs := hb.size
    refine (hg.block k (by omega) fun e' => ?_).trans (hb.block k hk)
    obtain ⟨c1, h1⟩ := row_type h.line e
    obtain ⟨c2, h2⟩ := row_type h.want e'.symm
    exact ty_ne h1 h2 (by decide) rfl
  · rw [List.getElem?_append] at hj
    split at hj
    · obtain ⟨A1, n1, c1, h1, h2⟩ := h.told.2 j l hj
      exact ⟨A1, n1, c1, by rw [List.getElem?_append_left (by rw [h.told.1]; assumption)]; exact h1, h2⟩
    · have hj0 : j - ws.length = 0 := by
        rcases Nat.eq_zero_or_pos (j - ws.length) with h0 | h0
        · exact h0
        · rw [List.getElem?_eq_none (by simp; omega)] at hj
          cases hj
      rw [hj0] at hj
      simp at hj
      subst hj
      have hjl : j = xs.length := by rw [h.told.1]; omega
      subst hjl
      exact ⟨Aq, nq, cq, by simp, hq⟩
  · have := h.bel.size
    have := hb.size
    exact below_app' (h.bel.trans (hb.mono h.bel.size)) (own_below h.want hb) hg (Nat.le_refl _) (by omega)
/-- the frame that is to be laid behind the line: in memory of its own -/
structure FrI (wr : World) (AL : Option Addr) (A5 : Option Addr) (N5 c5 : Nat) (fb : List UInt8) : Prop where
  rd : Rd wr A5 N5 c5 fb
  ap : Apart (.slice A5 0 0) (.slice AL 0 0)
theorem FrI.grow {wr wa w6 : World} {AL : Option Addr} {A5 : Option Addr} {N5 c5 : Nat} {fb : List UInt8} (h : FrI wr AL A5 N5 c5 fb) (hN : 0 < N5) (hb : Below wr.heap.size wr wa) {n c n' c' : Nat} {A' : Option Addr} (hg : wa.grownBy w6 (Value.ownBlock (.slice AL n c)))
    (hat : Value.ownBlock (.slice A' n' c') = Value.ownBlock (.slice AL n c) ∨ Value.ownBlock (.slice A' n' c') = some wa.heap.size) : FrI w6 A' A5 N5 c5 fb := by
  have e : ∀ (A : Option Addr) (n c : Nat), Value.ownBlock (.slice A n c) = Value.ownBlock (.slice A 0 0) := fun A n c => by cases A <;> rfl
  rw [e AL] at hg hat
  rw [e A'] at hat
  exact ⟨(h.rd.below hb).grown h.ap hg, Apart.moved (h.rd.below hb) hN h.ap hat⟩

set_option maxRecDepth 100000 in
set_option maxHeartbeats 4000000 in
/-- HdlcRows -/
theorem rows_law (A0 : Option Addr) (n0 c0 : Nat) (ls0 : List (List UInt8)) (A1 : Option Addr) (n1 c1 : Nat) (zs : List Int) (w : World) (hR : RdL w A0 n0 c0 ls0) (hZ : RdC w A1 n1 c1 1 (ints zs)) :
    Calls Try.prog 7 #[.slice A0 n0 c0, .slice A1 n1 c1] w fun e w' => e = .returned (.bool true) ∧ Below w.heap.size w w' := by
  have HR := Lib.hid hR
  have HZ := Lib.hid hZ
  have hn0 := hR.big
  have hn1 := hZ.big
  clear hR hZ
  go_enter Try.func7, Try.ntmps7
  go_wp2_with fail
  refine (dnew_any w).mono ?_
  rintro e w1 ⟨rfl, hd, hb⟩
  have hlt := hd.lt
  have HD := Lib.hid hd
  have HB := Lib.hid hb
  have hbs := hb.size
  clear hd hb
  go_wp2_with fail
  have hrow0 : (w1.alloc (.cells #[] 25)).ownsRow w1.heap.size 25 1 (.slice (some ⟨w1.heap.size, 0, none⟩) 0 0) 0 [] := own_empty _ _ _ _ 1 rfl (Nat.le_refl _)
  have hb0 : Below w1.heap.size w1 (w1.alloc (.cells #[] 25)) := (Below.refl _ _).alloc (Nat.le_refl _) _
  go_loopw [6, 7, 8] (fun lv wv i wr => ∃ k : Nat, k ≤ n0 ∧ k ≤ 30 ∧ i = .int .i64 k ∧ ∃ AL cL nL Aw cw nw L ws xs, lv = .slice AL nL cL ∧ wv = .slice Aw nw cw ∧ Hid (RowsI w w1 wr AL nL cL L Aw nw cw ws xs) ∧ nL ≤ 265 * k ∧ nw ≤ k ∧ Hid (Hdl.Rows L ws)) (fun _ _ i _ => n0 - (intOf i).toNat)
  case atStart => exact ⟨0, Nat.zero_le _, Nat.zero_le _, rfl, none, 0, 0, some ⟨w1.heap.size, 0, none⟩, 0, 0, [], [], [], rfl, rfl, ⟨rfl, rfl, World.ownsRow_nil _ _ _ _, hrow0, ⟨rfl, fun j l h => by simp at h⟩, hb0⟩, Nat.zero_le _, Nat.le_refl _, Hdl.Rows.nil⟩
  case round =>
    obtain ⟨k, hk, hk30, rfl, AL, cL, nL, Aw, cw, nw, L, ws, xs, rfl, rfl, hI, hnL, hnw, hrw⟩ := hrel
    by_cases hlt2 : k < n0 ∧ k < 30
    · obtain ⟨hlt, hlt30⟩ := hlt2
      obtain ⟨b, off, q, Aq, nq, cq, rfl, hb1, hq, hc1, hr1⟩ := HR.out.at' hlt
      have hbw := HB.out.trans (hI.out.bel.mono hbs)
      have hcw : wr.cell? ⟨b, off + k, none⟩ = some (.slice Aq nq cq) := (hbw.cell (p := ⟨b, off + k, none⟩) hb1).trans hc1
      have hen := encode_any Aq nq cq q wr (hr1.below hbw)
      by_cases hqn : nq = 0 ∨ 128 < nq
      · have e1 : Hdl.encE q ≠ 0 := by
          rw [Hdl.encE, hr1.len]
          by_cases h0 : nq = 0
          · rw [if_pos h0]; decide
          · rw [if_neg h0, if_pos (hqn.resolve_left h0)]; decide
        obtain ⟨E, hE⟩ : ∃ E, E = Hdl.encE q := ⟨_, rfl⟩
        rw [← hE] at hen e1
        have HEN := Lib.hid hen
        have t1 : (E != 0) = true := by simpa using e1
        clear hen hE e1 hc1 hq hqn hr1 hbw
        go_wp2_with fail
        refine HEN.out.mono ?_
        rintro e w4 ⟨A4, c4, rfl, _, _, hb4⟩
        have HI4 := Lib.hid (hI.out.below hb4)
        clear hb4
        go_wp2_with fail
        go_roundw
        case rel => exact ⟨k + 1, by omega, by omega, by go_num, AL, cL, nL, Aw, cw, nw, L, ws, xs, rfl, rfl, HI4, by omega, by omega, hrw⟩
        case measure => simp [intOf]; omega
      · have hq1 : 1 ≤ q.length := by rw [hr1.len]; omega
        have hq2 : q.length ≤ 128 := by rw [hr1.len]; omega
        have hE : Hdl.encE q = 0 := by rw [Hdl.encE, if_neg (by omega), if_neg (by omega)]
        have hB2 : Hdl.encB q = Hdl.frame q := by rw [Hdl.encB, if_neg (by omega)]
        rw [hE, hB2] at hen
        have hfl := Hdl.frame_len q hq2
        have hrF := fun (h : L ≠ []) => hrw.out.rest h q hq1 hq2
        have hrG := fun (L2 : List UInt8) (h : Hdl.Rows L2 ws) => h.frame q hq1 hq2
        have hrest := fun (L2 : List UInt8) (h : Hdl.Rows L2 ws) (h0 : L2 ≠ []) => h.rest h0 q hq1 hq2
        obtain ⟨fr, hfr⟩ : ∃ fr, fr = Hdl.frame q := ⟨_, rfl⟩
        rw [← hfr] at hen hfl
        simp only [← hfr] at hrG hrest
        obtain ⟨N, hN⟩ : ∃ N, N = fr.length := ⟨_, rfl⟩
        rw [← hN] at hen hfl
        have hql := hr1.len
        have hrq1 := hr1
        have HEN := Lib.hid hen
        have HRG := Lib.hid hrG
        have HREST := Lib.hid hrest
        have HN := Lib.hid hN
        have HQL := Lib.hid hql
        have HRQ1 := Lib.hid hrq1
        have HC1 := Lib.hid hc1
        have HBW := Lib.hid hbw
        clear hen hrG hrest hrF hN hfr hql hrq1 hc1 hE hB2 hq hr1 hbw hq1 hq2 hqn
        go_wp2_with fail
        refine HEN.out.mono ?_
        rintro e w4 ⟨A4, c4, rfl, hr4, hA4, hb4⟩
        have HI4 := Lib.hid (hI.out.below hb4)
        have hnew : New wr.heap.size A4 := fun g e => by
          obtain ⟨b4, off4, rfl, _, _⟩ := hr4.at_ (by omega)
          simp [Value.ownBlock] at e
          subst e
          exact hA4 b4 off4 rfl
        have hHF4 : FrI w4 AL A4 N c4 fr := ⟨hr4, Apart.new hnew fun g e => (World.ownsRow.lt hI.out.line g (by cases AL with
          | none => simp [Value.ownBlock] at e
          | some a => simpa [Value.ownBlock] using e)).2⟩
        have HFIN : Hid (∀ L2, Hdl.Rows L2 ws → (L ≠ [] → L2 ≠ []) → Hdl.Rows (L2 ++ fr) (ws ++ [q])) := fun L2 h _ => HRG.out L2 h
        have HB4 := Lib.hid (HBW.out.trans (hb4.mono HBW.out.size))
        have HLL := Lib.hid hI.out.ll
        clear hA4 hnew hb4 hcw hI HEN HRG
        by_cases hk1 : k < n1
        · obtain ⟨b2, off2, z, rfl, hb2, hz⟩ := HZ.out.num hk1
          have hz4 : w4.cell? ⟨b2, off2 + k, none⟩ = some (.int .i64 z) := (HB4.out.cell (p := ⟨b2, off2 + k, none⟩) hb2).trans hz
          have HZC := Lib.hid hz
          by_cases hz0 : z = 0
          · have t1 : (z == 0) = true := by simpa using hz0
            have HZ0 := Lib.hid hz0
            clear hz0
            rcases Nat.eq_zero_or_pos nL with h0 | h0
            · have t2 : ¬ ((0 : Int) < (nL : Int)) := by omega
              clear h0
              obtain ⟨A5, rfl⟩ : ∃ A5, A5 = A4 := ⟨_, rfl⟩
              obtain ⟨N5, rfl⟩ : ∃ N5, N5 = N := ⟨_, rfl⟩
              obtain ⟨c5, rfl⟩ : ∃ c5, c5 = c4 := ⟨_, rfl⟩
              obtain ⟨fb, rfl⟩ : ∃ fb, fb = fr := ⟨_, rfl⟩
              have FIN := HFIN
              have HF4 := Lib.hid hHF4
              have hN5 : 0 < N5 := by omega
              clear hHF4 hr4 HFIN
              have HF5 := HF4
              clear HF4
              obtain ⟨wo, rfl⟩ : ∃ wo : World, wo = w4 := ⟨_, rfl⟩
              go_wp2_with fail
              go_loopw [6, 11] (fun lv jv wr => ∃ j : Nat, j ≤ 3 ∧ jv = .int .i64 j ∧ ∃ AL2 cL2 nL2 L2, lv = .slice AL2 nL2 cL2 ∧ nL2 ≤ nL + j ∧ (L ≠ [] → L2.length = nL2 → L2 ≠ []) ∧ Hid (RowsI w w1 wr AL2 nL2 cL2 L2 Aw nw cw ws xs) ∧ Hid (FrI wr AL2 A5 N5 c5 fb) ∧ Hid (Hdl.Rows L2 ws)) (fun _ jv _ => 3 - (intOf jv).toNat)
              case atStart => exact ⟨0, Nat.zero_le _, rfl, AL, cL, nL, L, rfl, by omega, fun h _ => h, HI4, HF5, hrw⟩
              case round =>
                obtain ⟨j, hj, rfl, AL2, cL2, nL2, L2, rfl, h1, h2, hI2, hF2, hr2⟩ := hrel
                have hz5 := ((HB.out.trans (hI2.out.bel.mono hbs)).cell (p := ⟨b2, off2 + k, none⟩) hb2).trans hz
                have hjz : ¬ ((j : Int) < z) := by have := HZ0.out; omega
                go_wp2_with (first
                  | ((with_reducible show wpList _ _ _ (⟨some 77, _, _, _, _, _⟩ :: _) _ _); refine wpList_app _ rfl elemB (.tmp 75) (.tmp 76) rfl rfl hI2.out.line rfl hF2.out.rd.src (nL2 + N5) rfl (by omega) hI2.out.bel.size ?_; intro A6 c6 w6 hown6 hg6 hat6; have HI6 := Lib.hid (hI2.out.grow (Below.refl _ _) (L' := L2 ++ fb) (n' := nL2 + N5) (by rw [List.length_append, hI2.out.ll, hF2.out.rd.len]) (by rw [bs_append]; exact hown6) hg6); have hc6 := ((HB.out.trans (HI6.out.bel.mono hbs)).cell (p := ⟨b, off + k, none⟩) hb1).trans HC1.out; clear hown6 hg6 hat6)
                  | ((with_reducible show wpList _ _ _ (⟨some 84, _, _, _, _, _⟩ :: _) _ _); refine wpList_app _ rfl elemL (.tmp 78) (.tmp 83) rfl rfl (HI6.out.want.alloc _) rfl (Src.new' w6 _ rfl [_] _ 1 1 rfl (by simp [Value.oneCell'])) (nw + 1) rfl (by omega) (by have := HI6.out.bel.size; simp; omega) ?_; intro A7 c7 w7 hown7 hg7 hat7; have HI7 := Lib.hid (HI6.out.more ((Below.refl _ _).alloc (Nat.le_refl _) _) HRQ1.out hown7 hg7); clear hown7 hg7 hat7))
                go_roundw
                case rel => exact ⟨k + 1, by omega, by omega, by go_num, A6, c6, nL2 + N5, A7, c7, nw + 1, L2 ++ fb, ws ++ [q], _, rfl, rfl, HI7, by omega, by omega, FIN.out L2 hr2.out (fun h => h2 h hI2.out.ll)⟩
                case measure => simp [intOf]; omega
            · have t2 : (0 : Int) < (nL : Int) := by omega
              have hLne : L ≠ [] := fun e => by
                have := HLL.out
                rw [e] at this
                simp at this
                omega
              have FIN : Hid (∀ L2, Hdl.Rows L2 ws → (L ≠ [] → L2 ≠ []) → Hdl.Rows (L2 ++ fr.drop 1) (ws ++ [q])) := fun L2 h hh => HREST.out L2 h (hh hLne)
              obtain ⟨b4, off4, rfl, hb4l, _⟩ := hr4.at_ (by omega)
              have hcap4 := hr4.cap
              obtain ⟨N5, rfl⟩ : ∃ M, N = M + 1 := ⟨N - 1, by omega⟩
              obtain ⟨c5, rfl⟩ : ∃ C, c4 = C + 1 := ⟨c4 - 1, by omega⟩
              have hC : ¬ c5 = 0 := by omega
              have hr5 := hr4.drop (k := 1) (by omega)
              rw [if_neg (by omega)] at hr5
              simp only [Nat.add_sub_cancel, Option.map_some, add_none] at hr5
              have hF5 : FrI w4 AL (some ⟨b4, off4 + 1, none⟩) N5 c5 (fr.drop 1) := ⟨hr5, fun k e => hHF4.ap k e⟩
              obtain ⟨A5, hA5⟩ : ∃ A5 : Option Addr, A5 = some ⟨b4, off4 + 1, none⟩ := ⟨_, rfl⟩
              rw [← hA5] at hF5
              have HA5 := Lib.hid hA5
              obtain ⟨fb, hfb⟩ : ∃ fb, fb = fr.drop 1 := ⟨_, rfl⟩
              rw [← hfb] at hF5 FIN
              have HF4 := Lib.hid hF5
              have hN5 : 0 < N5 := by omega
              clear hHF4 hr4 HFIN hr5 hF5 hA5 hfb h0 hLne
              go_wp2_with fail
              rw [← HA5.out]
              have HF5 := HF4
              clear HF4
              obtain ⟨wo, rfl⟩ : ∃ wo : World, wo = w4 := ⟨_, rfl⟩
              go_wp2_with fail
              go_loopw [6, 11] (fun lv jv wr => ∃ j : Nat, j ≤ 3 ∧ jv = .int .i64 j ∧ ∃ AL2 cL2 nL2 L2, lv = .slice AL2 nL2 cL2 ∧ nL2 ≤ nL + j ∧ (L ≠ [] → L2.length = nL2 → L2 ≠ []) ∧ Hid (RowsI w w1 wr AL2 nL2 cL2 L2 Aw nw cw ws xs) ∧ Hid (FrI wr AL2 A5 N5 c5 fb) ∧ Hid (Hdl.Rows L2 ws)) (fun _ jv _ => 3 - (intOf jv).toNat)
              case atStart => exact ⟨0, Nat.zero_le _, rfl, AL, cL, nL, L, rfl, by omega, fun h _ => h, HI4, HF5, hrw⟩
              case round =>
                obtain ⟨j, hj, rfl, AL2, cL2, nL2, L2, rfl, h1, h2, hI2, hF2, hr2⟩ := hrel
                have hz5 := ((HB.out.trans (hI2.out.bel.mono hbs)).cell (p := ⟨b2, off2 + k, none⟩) hb2).trans hz
                have hjz : ¬ ((j : Int) < z) := by have := HZ0.out; omega
                go_wp2_with (first
                  | ((with_reducible show wpList _ _ _ (⟨some 77, _, _, _, _, _⟩ :: _) _ _); refine wpList_app _ rfl elemB (.tmp 75) (.tmp 76) rfl rfl hI2.out.line rfl hF2.out.rd.src (nL2 + N5) rfl (by omega) hI2.out.bel.size ?_; intro A6 c6 w6 hown6 hg6 hat6; have HI6 := Lib.hid (hI2.out.grow (Below.refl _ _) (L' := L2 ++ fb) (n' := nL2 + N5) (by rw [List.length_append, hI2.out.ll, hF2.out.rd.len]) (by rw [bs_append]; exact hown6) hg6); have hc6 := ((HB.out.trans (HI6.out.bel.mono hbs)).cell (p := ⟨b, off + k, none⟩) hb1).trans HC1.out; clear hown6 hg6 hat6)
                  | ((with_reducible show wpList _ _ _ (⟨some 84, _, _, _, _, _⟩ :: _) _ _); refine wpList_app _ rfl elemL (.tmp 78) (.tmp 83) rfl rfl (HI6.out.want.alloc _) rfl (Src.new' w6 _ rfl [_] _ 1 1 rfl (by simp [Value.oneCell'])) (nw + 1) rfl (by omega) (by have := HI6.out.bel.size; simp; omega) ?_; intro A7 c7 w7 hown7 hg7 hat7; have HI7 := Lib.hid (HI6.out.more ((Below.refl _ _).alloc (Nat.le_refl _) _) HRQ1.out hown7 hg7); clear hown7 hg7 hat7))
                go_roundw
                case rel => exact ⟨k + 1, by omega, by omega, by go_num, A6, c6, nL2 + N5, A7, c7, nw + 1, L2 ++ fb, ws ++ [q], _, rfl, rfl, HI7, by omega, by omega, FIN.out L2 hr2.out (fun h => h2 h hI2.out.ll)⟩
                case measure => simp [intOf]; omega
          · have t1 : (z == 0) = false := by simpa using hz0
            obtain ⟨A5, rfl⟩ : ∃ A5, A5 = A4 := ⟨_, rfl⟩
            obtain ⟨N5, rfl⟩ : ∃ N5, N5 = N := ⟨_, rfl⟩
            obtain ⟨c5, rfl⟩ : ∃ c5, c5 = c4 := ⟨_, rfl⟩
            obtain ⟨fb, rfl⟩ : ∃ fb, fb = fr := ⟨_, rfl⟩
            have FIN := HFIN
            have HF4 := Lib.hid hHF4
            have hN5 : 0 < N5 := by omega
            clear hHF4 hr4 HFIN
            have HF5 := HF4
            clear HF4
            obtain ⟨wo, rfl⟩ : ∃ wo : World, wo = w4 := ⟨_, rfl⟩
            go_wp2_with fail
            go_loopw [6, 11] (fun lv jv wr => ∃ j : Nat, j ≤ 3 ∧ jv = .int .i64 j ∧ ∃ AL2 cL2 nL2 L2, lv = .slice AL2 nL2 cL2 ∧ nL2 ≤ nL + j ∧ (L ≠ [] → L2.length = nL2 → L2 ≠ []) ∧ Hid (RowsI w w1 wr AL2 nL2 cL2 L2 Aw nw cw ws xs) ∧ Hid (FrI wr AL2 A5 N5 c5 fb) ∧ Hid (Hdl.Rows L2 ws)) (fun _ jv _ => 3 - (intOf jv).toNat)
            case atStart => exact ⟨0, Nat.zero_le _, rfl, AL, cL, nL, L, rfl, by omega, fun h _ => h, HI4, HF5, hrw⟩
            case round =>
              obtain ⟨j, hj, rfl, AL2, cL2, nL2, L2, rfl, h1, h2, hI2, hF2, hr2⟩ := hrel
              have hz5 := ((HB.out.trans (hI2.out.bel.mono hbs)).cell (p := ⟨b2, off2 + k, none⟩) hb2).trans hz
              by_cases hjz : (j : Int) < z
              · by_cases hj3 : j < 3
                · go_wp2_with ((with_reducible show wpList _ _ _ (⟨some 74, _, _, _, _, _⟩ :: _) _ _); refine wpList_app _ rfl elemB (.tmp 72) (.tmp 73) rfl rfl (hI2.out.line.alloc _) rfl (Src.new' _ _ rfl [_] _ 1 1 rfl (by simp [Value.oneCell'])) (nL2 + 1) rfl (by omega) (by have := hI2.out.bel.size; simp; omega) ?_; intro A6 c6 w6 hown6 hg6 hat6; have HI6 := Lib.hid (hI2.out.grow ((Below.refl _ _).alloc (Nat.le_refl _) _) (L' := L2 ++ [0x7e]) (n' := nL2 + 1) (by simp [hI2.out.ll]) (by rw [bs_append]; exact hown6) hg6); have HF6 := Lib.hid (hF2.out.grow hN5 ((Below.refl _ _).alloc (Nat.le_refl _) _) hg6 hat6); clear hown6 hg6 hat6)
                  go_roundw
                  case rel => exact ⟨j + 1, by omega, by go_num, A6, c6, nL2 + 1, L2 ++ [0x7e], rfl, by omega, fun _ _ e => by simp at e, HI6, HF6, hr2.out.flag⟩
                  case measure => simp [intOf]; omega
                · obtain rfl : j = 3 := by omega
                  go_wp2_with (first
                    | ((with_reducible show wpList _ _ _ (⟨some 77, _, _, _, _, _⟩ :: _) _ _); refine wpList_app _ rfl elemB (.tmp 75) (.tmp 76) rfl rfl hI2.out.line rfl hF2.out.rd.src (nL2 + N5) rfl (by omega) hI2.out.bel.size ?_; intro A6 c6 w6 hown6 hg6 hat6; have HI6 := Lib.hid (hI2.out.grow (Below.refl _ _) (L' := L2 ++ fb) (n' := nL2 + N5) (by rw [List.length_append, hI2.out.ll, hF2.out.rd.len]) (by rw [bs_append]; exact hown6) hg6); have hc6 := ((HB.out.trans (HI6.out.bel.mono hbs)).cell (p := ⟨b, off + k, none⟩) hb1).trans HC1.out; clear hown6 hg6 hat6)
                    | ((with_reducible show wpList _ _ _ (⟨some 84, _, _, _, _, _⟩ :: _) _ _); refine wpList_app _ rfl elemL (.tmp 78) (.tmp 83) rfl rfl (HI6.out.want.alloc _) rfl (Src.new' w6 _ rfl [_] _ 1 1 rfl (by simp [Value.oneCell'])) (nw + 1) rfl (by omega) (by have := HI6.out.bel.size; simp; omega) ?_; intro A7 c7 w7 hown7 hg7 hat7; have HI7 := Lib.hid (HI6.out.more ((Below.refl _ _).alloc (Nat.le_refl _) _) HRQ1.out hown7 hg7); clear hown7 hg7 hat7))
                  go_roundw
                  case rel => exact ⟨k + 1, by omega, by omega, by go_num, A6, c6, nL2 + N5, A7, c7, nw + 1, L2 ++ fb, ws ++ [q], _, rfl, rfl, HI7, by omega, by omega, FIN.out L2 hr2.out (fun h => h2 h hI2.out.ll)⟩
                  case measure => simp [intOf]; omega
              · skip
                go_wp2_with (first
                  | ((with_reducible show wpList _ _ _ (⟨some 77, _, _, _, _, _⟩ :: _) _ _); refine wpList_app _ rfl elemB (.tmp 75) (.tmp 76) rfl rfl hI2.out.line rfl hF2.out.rd.src (nL2 + N5) rfl (by omega) hI2.out.bel.size ?_; intro A6 c6 w6 hown6 hg6 hat6; have HI6 := Lib.hid (hI2.out.grow (Below.refl _ _) (L' := L2 ++ fb) (n' := nL2 + N5) (by rw [List.length_append, hI2.out.ll, hF2.out.rd.len]) (by rw [bs_append]; exact hown6) hg6); have hc6 := ((HB.out.trans (HI6.out.bel.mono hbs)).cell (p := ⟨b, off + k, none⟩) hb1).trans HC1.out; clear hown6 hg6 hat6)
                  | ((with_reducible show wpList _ _ _ (⟨some 84, _, _, _, _, _⟩ :: _) _ _); refine wpList_app _ rfl elemL (.tmp 78) (.tmp 83) rfl rfl (HI6.out.want.alloc _) rfl (Src.new' w6 _ rfl [_] _ 1 1 rfl (by simp [Value.oneCell'])) (nw + 1) rfl (by omega) (by have := HI6.out.bel.size; simp; omega) ?_; intro A7 c7 w7 hown7 hg7 hat7; have HI7 := Lib.hid (HI6.out.more ((Below.refl _ _).alloc (Nat.le_refl _) _) HRQ1.out hown7 hg7); clear hown7 hg7 hat7))
                go_roundw
                case rel => exact ⟨k + 1, by omega, by omega, by go_num, A6, c6, nL2 + N5, A7, c7, nw + 1, L2 ++ fb, ws ++ [q], _, rfl, rfl, HI7, by omega, by omega, FIN.out L2 hr2.out (fun h => h2 h hI2.out.ll)⟩
                case measure => simp [intOf]; omega
        · have hk1' : ¬ ((k : Int) < (n1 : Int)) := by omega
          obtain ⟨A5, rfl⟩ : ∃ A5, A5 = A4 := ⟨_, rfl⟩
          obtain ⟨N5, rfl⟩ : ∃ N5, N5 = N := ⟨_, rfl⟩
          obtain ⟨c5, rfl⟩ : ∃ c5, c5 = c4 := ⟨_, rfl⟩
          obtain ⟨fb, rfl⟩ : ∃ fb, fb = fr := ⟨_, rfl⟩
          have FIN := HFIN
          have HF4 := Lib.hid hHF4
          have hN5 : 0 < N5 := by omega
          clear hHF4 hr4 HFIN
          have HF5 := HF4
          clear HF4
          obtain ⟨wo, rfl⟩ : ∃ wo : World, wo = w4 := ⟨_, rfl⟩
          go_wp2_with fail
          go_loopw [6, 11] (fun lv jv wr => ∃ j : Nat, j ≤ 3 ∧ jv = .int .i64 j ∧ ∃ AL2 cL2 nL2 L2, lv = .slice AL2 nL2 cL2 ∧ nL2 ≤ nL + j ∧ (L ≠ [] → L2.length = nL2 → L2 ≠ []) ∧ Hid (RowsI w w1 wr AL2 nL2 cL2 L2 Aw nw cw ws xs) ∧ Hid (FrI wr AL2 A5 N5 c5 fb) ∧ Hid (Hdl.Rows L2 ws)) (fun _ jv _ => 3 - (intOf jv).toNat)
          case atStart => exact ⟨0, Nat.zero_le _, rfl, AL, cL, nL, L, rfl, by omega, fun h _ => h, HI4, HF5, hrw⟩
          case round =>
            obtain ⟨j, hj, rfl, AL2, cL2, nL2, L2, rfl, h1, h2, hI2, hF2, hr2⟩ := hrel
            go_wp2_with (first
              | ((with_reducible show wpList _ _ _ (⟨some 77, _, _, _, _, _⟩ :: _) _ _); refine wpList_app _ rfl elemB (.tmp 75) (.tmp 76) rfl rfl hI2.out.line rfl hF2.out.rd.src (nL2 + N5) rfl (by omega) hI2.out.bel.size ?_; intro A6 c6 w6 hown6 hg6 hat6; have HI6 := Lib.hid (hI2.out.grow (Below.refl _ _) (L' := L2 ++ fb) (n' := nL2 + N5) (by rw [List.length_append, hI2.out.ll, hF2.out.rd.len]) (by rw [bs_append]; exact hown6) hg6); have hc6 := ((HB.out.trans (HI6.out.bel.mono hbs)).cell (p := ⟨b, off + k, none⟩) hb1).trans HC1.out; clear hown6 hg6 hat6)
              | ((with_reducible show wpList _ _ _ (⟨some 84, _, _, _, _, _⟩ :: _) _ _); refine wpList_app _ rfl elemL (.tmp 78) (.tmp 83) rfl rfl (HI6.out.want.alloc _) rfl (Src.new' w6 _ rfl [_] _ 1 1 rfl (by simp [Value.oneCell'])) (nw + 1) rfl (by omega) (by have := HI6.out.bel.size; simp; omega) ?_; intro A7 c7 w7 hown7 hg7 hat7; have HI7 := Lib.hid (HI6.out.more ((Below.refl _ _).alloc (Nat.le_refl _) _) HRQ1.out hown7 hg7); clear hown7 hg7 hat7))
            go_roundw
            case rel => exact ⟨k + 1, by omega, by omega, by go_num, A6, c6, nL2 + N5, A7, c7, nw + 1, L2 ++ fb, ws ++ [q], _, rfl, rfl, HI7, by omega, by omega, FIN.out L2 hr2.out (fun h => h2 h hI2.out.ll)⟩
            case measure => simp [intOf]; omega
    · have HI := Lib.hid hI.out
      clear hI
      have hwl := HI.out.wl
      have hnl := HI.out.ll
      have hfe : (Hdl.feed Hdl.d0 L).2 = ws ∧ (Hdl.feed Hdl.d0 L).1.met = ⟨nw, 0, 0, 0, 0⟩ := by
        by_cases h0 : L = []
        · obtain ⟨h1, h2⟩ := hrw.out.none h0
          rw [h1]
          refine ⟨h2.symm, ?_⟩
          have : nw = 0 := by rw [← hwl, h2]; rfl
          rw [this]
          rfl
        · rw [hrw.out.some h0, hwl]
          exact ⟨rfl, rfl⟩
      have hlen : ∀ l' ∈ ws, l'.length ≤ 128 := by rw [← hfe.1]; exact Hdl.feed_len L Hdl.d0
      have hfd := dfeed_any (d := Hdl.d0) wr AL nL cL L ((HD.out.below HI.out.bel).recut (Nat.le_refl _)) ((OwnB.of HI.out.line L rfl).rd hnl (by omega)) (fun h0 b off e h => by
        have h2 := (World.ownsRow.lt HI.out.line b (by subst e; rfl)).1
        have h3 := HD.out.lt
        rcases h with h | h | h
        · omega
        · simp [Value.ownBlock] at h
        · simp [Value.ownBlock] at h) Hdl.ok0 0 Hdl.le0 (by omega) (by simp; omega)
      rw [hfe.1, List.nil_append] at hfd
      obtain ⟨d1, hd1⟩ : ∃ d1, d1 = (Hdl.feed Hdl.d0 L).1 := ⟨_, rfl⟩
      rw [← hd1] at hfe hfd
      have HFD := Lib.hid hfd
      have HMET := Lib.hid hfe.2
      have HLEN := Lib.hid hlen
      have HWL := Lib.hid hwl
      clear hfd hfe hlen hwl hnl hd1
      rcases Nat.lt_or_ge k n0 with h1 | h1
      · obtain rfl : k = 30 := by omega
        go_wp2_with fail
        refine HFD.out.mono ?_
        rintro e w5 ⟨I', A3, c3, xs5, rfl, hd5, hs5, ht5, hk5, hi5, ha5⟩
        rw [HWL.out] at hs5 ha5 ⊢
        have hs54 := hk5.size
        have hg1 := HD.out.lt
        have hrw5 : w5.ownsRow w1.heap.size 25 1 (.slice Aw nw cw) nw xs := row_keep HI.out.want fun q e => hk5.block q (World.ownsRow.lt HI.out.want q e).2 (by
          have := (World.ownsRow.lt HI.out.want q e).1
          rintro (h | h | h)
          · omega
          · simp [Value.ownBlock] at h
          · simp [Value.ownBlock] at h)
        have hrb : ∀ A n c l, Rd w A n c l → Rd w5 A n c l := fun A n c l h => by
          rcases Nat.eq_zero_or_pos n with h0 | h0
          · subst h0
            have hl : l = [] := List.eq_nil_of_length_eq_zero h.len
            subst hl
            exact Rd.nil _ _ _
          · obtain ⟨b2, off2, rfl, hb2, _⟩ := h.at_ h0
            refine ((h.below HB.out).below HI.out.bel).keep hs54 fun b off e hb => hk5.block b hb ?_
            injection e with e
            injection e with e
            rintro (h | h | h)
            · omega
            · simp [Value.ownBlock] at h
            · simp [Value.ownBlock] at h
        have hwant : RdL w5 Aw nw cw ws := by
          have hc := RdC.of_row hrw5 (by omega)
          refine ⟨HWL.out, hc.cap, hc.big, fun h0 => ?_⟩
          obtain ⟨b2, off2, e2, hb2, hcell⟩ := hc.at_ h0
          exact ⟨b2, off2, e2, hb2, fun j l hj => by
            obtain ⟨A', n', c', h1, h2⟩ := HI.out.told.2 j l hj
            exact ⟨A', n', c', hcell j _ h1, hrb _ _ _ _ h2⟩⟩
        have hgot : RdL w5 A3 nw c3 ws := (Told.rdl hs5 ht5 (fun q e => by
          rcases ha5 q e with h | h
          · simp [Value.ownBlock] at h
          · exact h) HWL.out (by omega) HLEN.out).rdl
        have hbel5 : Below w.heap.size w w5 := (HB.out.trans (HI.out.bel.mono hbs)).trans (hk5.below (by have := HI.out.bel.size; omega) (fun i hi h => by
          rcases h with h | h | h
          · omega
          · simp [Value.ownBlock] at h
          · simp [Value.ownBlock] at h))
        have HWANT := Lib.hid hwant
        have HGOT := Lib.hid hgot
        have HBEL := Lib.hid hbel5
        have HD5 := Lib.hid hd5
        clear hwant hgot hbel5 hd5 hrb hrw5 hs5 ht5 hk5 hi5 ha5 hs54
        go_wp2_with fail
        refine (rsame_eq _ A3 Aw nw c3 cw ws HGOT.out HWANT.out).mono ?_
        rintro e w6 ⟨rfl, hb6⟩
        have HD6 := Lib.hid (HD5.out.below hb6)
        have HB6 := Lib.hid (HBEL.out.trans (hb6.mono HBEL.out.size))
        clear hb6
        go_wp2_with fail
        refine (dstats_any _ HD6.out).mono ?_
        rintro e w7 ⟨rfl, hb7⟩
        rw [HMET.out]
        simp only [mets]
        have HB7 := Lib.hid (HB6.out.trans (hb7.mono HB6.out.size))
        clear hb7
        go_wp2_with fail
        refine (awake_any _).mono ?_
        rintro e w8 ⟨rfl, hb8⟩
        go_wp2
        go_ret
        exact ⟨rfl, HB7.out.trans (hb8.mono HB7.out.size)⟩
      · obtain rfl : k = n0 := by omega
        go_wp2_with fail
        refine HFD.out.mono ?_
        rintro e w5 ⟨I', A3, c3, xs5, rfl, hd5, hs5, ht5, hk5, hi5, ha5⟩
        rw [HWL.out] at hs5 ha5 ⊢
        have hs54 := hk5.size
        have hg1 := HD.out.lt
        have hrw5 : w5.ownsRow w1.heap.size 25 1 (.slice Aw nw cw) nw xs := row_keep HI.out.want fun q e => hk5.block q (World.ownsRow.lt HI.out.want q e).2 (by
          have := (World.ownsRow.lt HI.out.want q e).1
          rintro (h | h | h)
          · omega
          · simp [Value.ownBlock] at h
          · simp [Value.ownBlock] at h)
        have hrb : ∀ A n c l, Rd w A n c l → Rd w5 A n c l := fun A n c l h => by
          rcases Nat.eq_zero_or_pos n with h0 | h0
          · subst h0
            have hl : l = [] := List.eq_nil_of_length_eq_zero h.len
            subst hl
            exact Rd.nil _ _ _
          · obtain ⟨b2, off2, rfl, hb2, _⟩ := h.at_ h0
            refine ((h.below HB.out).below HI.out.bel).keep hs54 fun b off e hb => hk5.block b hb ?_
            injection e with e
            injection e with e
            rintro (h | h | h)
            · omega
            · simp [Value.ownBlock] at h
            · simp [Value.ownBlock] at h
        have hwant : RdL w5 Aw nw cw ws := by
          have hc := RdC.of_row hrw5 (by omega)
          refine ⟨HWL.out, hc.cap, hc.big, fun h0 => ?_⟩
          obtain ⟨b2, off2, e2, hb2, hcell⟩ := hc.at_ h0
          exact ⟨b2, off2, e2, hb2, fun j l hj => by
            obtain ⟨A', n', c', h1, h2⟩ := HI.out.told.2 j l hj
            exact ⟨A', n', c', hcell j _ h1, hrb _ _ _ _ h2⟩⟩
        have hgot : RdL w5 A3 nw c3 ws := (Told.rdl hs5 ht5 (fun q e => by
          rcases ha5 q e with h | h
          · simp [Value.ownBlock] at h
          · exact h) HWL.out (by omega) HLEN.out).rdl
        have hbel5 : Below w.heap.size w w5 := (HB.out.trans (HI.out.bel.mono hbs)).trans (hk5.below (by have := HI.out.bel.size; omega) (fun i hi h => by
          rcases h with h | h | h
          · omega
          · simp [Value.ownBlock] at h
          · simp [Value.ownBlock] at h))
        have HWANT := Lib.hid hwant
        have HGOT := Lib.hid hgot
        have HBEL := Lib.hid hbel5
        have HD5 := Lib.hid hd5
        clear hwant hgot hbel5 hd5 hrb hrw5 hs5 ht5 hk5 hi5 ha5 hs54
        go_wp2_with fail
        refine (rsame_eq _ A3 Aw nw c3 cw ws HGOT.out HWANT.out).mono ?_
        rintro e w6 ⟨rfl, hb6⟩
        have HD6 := Lib.hid (HD5.out.below hb6)
        have HB6 := Lib.hid (HBEL.out.trans (hb6.mono HBEL.out.size))
        clear hb6
        go_wp2_with fail
        refine (dstats_any _ HD6.out).mono ?_
        rintro e w7 ⟨rfl, hb7⟩
        rw [HMET.out]
        simp only [mets]
        have HB7 := Lib.hid (HB6.out.trans (hb7.mono HB6.out.size))
        clear hb7
        go_wp2_with fail
        refine (awake_any _).mono ?_
        rintro e w8 ⟨rfl, hb8⟩
        go_wp2
        go_ret
        exact ⟨rfl, HB7.out.trans (hb8.mono HB7.out.size)⟩
end Go.Proofs.Ytpfilomckijmkaa
