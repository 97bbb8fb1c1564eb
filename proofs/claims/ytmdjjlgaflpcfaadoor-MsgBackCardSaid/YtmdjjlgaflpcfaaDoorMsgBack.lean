/-
  MsgBack.
-/
import Derived.Test.YtmdjjlgaflpcfaaDoorMsgParse
import Derived.Test.YtmdjjlgaflpcfaaDoorMsgGets2
import Derived.Deep.DeepCutAuto
import Derived.Deep.CutRange
namespace Go.Proofs.YtmdjjlgaflpcfaaDoor
open Go.RowKit Mg

theorem nat8_cons0 (a : UInt8) (l : List UInt8) : nat8 (a :: l) 0 = a.toNat := rfl
theorem byte_of_lt (n : Nat) (h : n < 256) : (UInt8.ofNat n).toNat = n := by rw [UInt8.toNat_ofNat', Nat.mod_eq_of_lt h]
theorem gid_idB {i : Mid} (h : chk i = 0) : gid (idB i) = i := by
  have hin := in_of_chk h
  obtain ⟨o, d, e, c⟩ := i
  obtain ⟨⟨a0, a1⟩, ⟨a2, a3⟩, ⟨a4, a5⟩, a6, a7⟩ := hin
  simp only at a0 a1 a2 a3 a4 a5 a6 a7
  obtain ⟨x0, rfl⟩ := Int.eq_ofNat_of_zero_le a0
  obtain ⟨x1, rfl⟩ := Int.eq_ofNat_of_zero_le a2
  obtain ⟨x2, rfl⟩ := Int.eq_ofNat_of_zero_le (show 0 ≤ e by omega)
  obtain ⟨x3, rfl⟩ := Int.eq_ofNat_of_zero_le (show 0 ≤ c by omega)
  unfold gid idB
  simp only [Int.toNat_natCast, be2, List.cons_append, List.nil_append, nat8, List.getD_cons_zero, List.getD_cons_succ]
  rw [byte_of_lt x0 (by omega), byte_of_lt x1 (by omega), byte_of_lt _ (Nat.mod_lt _ (by omega)), byte_of_lt _ (Nat.mod_lt _ (by omega)), byte_of_lt _ (Nat.mod_lt _ (by omega)), byte_of_lt _ (Nat.mod_lt _ (by omega))]
  congr 1 <;> omega
theorem lit6 {α : Type} {l : List α} (h : l.length = 6) : ∃ a b c d e f, l = [a, b, c, d, e, f] := by
  match l, h with
  | [a, b, c, d, e, f], _ => exact ⟨a, b, c, d, e, f, rfl⟩
theorem idB_gid {l : List UInt8} (h : l.length = 6) : idB (gid l) = l := by
  obtain ⟨a, b, c, d, e, f, rfl⟩ := lit6 h
  have ha := a.toNat_lt
  have hb := b.toNat_lt
  have hc := c.toNat_lt
  have hd := d.toNat_lt
  have he := e.toNat_lt
  have hf := f.toNat_lt
  have back : ∀ (x : UInt8) (n : Nat), n = x.toNat → UInt8.ofNat n = x := fun x n h => by rw [h]; exact UInt8.ofNat_toNat
  unfold gid idB
  simp only [Int.toNat_natCast, be2, List.cons_append, List.nil_append, nat8, List.getD_cons_zero, List.getD_cons_succ]
  rw [back a _ rfl, back b _ rfl, back c _ (by omega), back d _ (by omega), back e _ (by omega), back f _ (by omega)]
/-- what was put is got back -/
theorem get_put {i : Mid} {l : List UInt8} (h : chkM i l.length = 0) : getM (idB i ++ l) = i ∧ getD' (idB i ++ l) = l ∧ getE (idB i ++ l) = 0 := by
  obtain ⟨h0, h1, h2⟩ := chk_of_chkM h
  have e6 : (idB i ++ l).take 6 = idB i := by rw [← idB_len i]; exact List.take_left
  have d6 : (idB i ++ l).drop 6 = l := by rw [← idB_len i]; exact List.drop_left
  have hg : gok (idB i ++ l) := ⟨by rw [List.length_append, idB_len]; omega, by rw [List.length_append, idB_len]; omega, by rw [e6, gid_idB h0]; exact h0⟩
  exact ⟨by rw [getM, if_pos hg, e6, gid_idB h0], by rw [getD', if_pos hg, d6], if_pos hg⟩
/-- what was got is put as it stood -/
theorem put_get {p : List UInt8} (h : gok p) : chkM (getM p) (getD' p).length = 0 ∧ mb (getM p) (getD' p) = p := by
  have h6 : (p.take 6).length = 6 := by rw [List.length_take]; have := h.1; omega
  have e1 : getM p = gid (p.take 6) := if_pos h
  have e2 : getD' p = p.drop 6 := if_pos h
  have hc : chkM (getM p) (getD' p).length = 0 := by
    rw [e1, e2, chkM, if_pos h.2.2, if_neg (by rw [List.length_drop]; have := h.1; omega), if_neg (by rw [List.length_drop]; have := h.2.1; omega)]
  refine ⟨hc, ?_⟩
  rw [mb, if_pos hc, e1, e2, idB_gid h6, List.take_append_drop]
theorem par_text {i : Mid} (h : chk i = 0) : parI (textB i) = i ∧ parE (textB i) = 0 := by
  have e := pI_text h
  have ht : isText (pI (textB i)) (textB i) := by rw [e]; exact ⟨h, rfl⟩
  exact ⟨by rw [parI, if_pos ht, e], if_pos ht⟩
theorem text_par {s : List UInt8} (h : parE s = 0) : chk (parI s) = 0 ∧ tB (parI s) = s := by
  by_cases ht : isText (pI s) s
  · have e : parI s = pI s := if_pos ht
    rw [e]
    exact ⟨ht.1, by rw [tB, if_pos ht.1]; exact ht.2⟩
  · rw [parE, if_neg ht] at h
    cases h

set_option maxRecDepth 100000 in
set_option maxHeartbeats 2000000 in
/-- MsgBack -/
theorem back_law (i : Mid) (A : Option Addr) (n c : Nat) (l : List UInt8) (Ap : Option Addr) (np cp : Nat) (p : List UInt8) (s : ByteArray) (w : World) (hR : Rd w A n c l) (hP : Rd w Ap np cp p) (hpn : np ≤ 140737488351232) (hs : s.size ≤ 281474976710656) (hd : Door w) (he : Errs w) :
    Calls Tryd.prog 9 #[msgv i (.slice A n c), .slice Ap np cp, .string s] w fun e w' => e = .returned (.bool true) ∧ Below w.heap.size w w' := by
  obtain ⟨t, rfl⟩ : ∃ l : List UInt8, s = ⟨l.toArray⟩ := ⟨s.data.toList, by cases s; simp⟩
  have ht : t.length ≤ 281474976710656 := by simpa [ByteArray.size] using hs
  have HPUT := Lib.hid (fun W h => put_any i A n c l W (hR.below h))
  have hmb := mb_len i l
  have hln := hR.len
  have hgp := fun (hz : chkM i n = 0) => get_put (i := i) (l := l) (by rw [hln]; exact hz)
  have hmbz : chkM i n = 0 → mb i l = idB i ++ l := fun hz => if_pos (by rw [hln]; exact hz)
  obtain ⟨z, hz⟩ : ∃ z, z = chkM i n := ⟨_, rfl⟩
  obtain ⟨q, hq⟩ : ∃ q, q = mb i l := ⟨_, rfl⟩
  rw [← hz, ← hq] at HPUT
  have HGQ : Hid (∀ (W : World) (B : Option Addr) (k : Nat), Rd W B q.length k q → z = 0 → Calls Tryd.prog 23 #[.slice B q.length k] W fun e w' => ∃ B' k', e = .returned (.tuple #[msgv i (.slice B' l.length k'), .int .i64 0]) ∧ Rd w' B' l.length k' l ∧ Below W.heap.size W w') := fun W B k hB h0 => by
    obtain ⟨g1, g2, g3⟩ := hgp (by rw [← hz]; exact h0)
    have hqe : q = idB i ++ l := by rw [hq]; exact hmbz (by rw [← hz]; exact h0)
    refine (get_any B q.length k q W hB (by rw [hq]; omega)).mono ?_
    rintro e w' ⟨B', m', k', rfl, rfl, hsl, hb⟩
    rw [hqe, g2] at hsl
    rw [hqe, g1, g2, g3]
    exact ⟨B', k', rfl, hsl.rd (by have := hmb; rw [← hq, hqe, List.length_append, idB_len] at this; omega), hb⟩
  have HS := Lib.hid (fun B k W hA hB => rsame_any i i A B n l.length c k l l W hA hB)
  simp only [decide_true, Bool.true_and, BEq.rfl] at HS
  rw [← hq] at hmb
  have hlp := hP.len
  have HG : Hid (∀ W, Rd W Ap np cp p → Calls Tryd.prog 23 #[.slice Ap np cp] W fun e w' => ∃ B k, e = .returned (.tuple #[msgv (getM p) (.slice B (getD' p).length k), .int .i64 (getE p)]) ∧ Rd w' B (getD' p).length k (getD' p) ∧ Below W.heap.size W w') := fun W h => by
    refine (get_any Ap np cp p W h hpn).mono ?_
    rintro e w' ⟨B, m, k, rfl, rfl, hsl, hb⟩
    exact ⟨B, k, rfl, hsl.rd (by have := getD_len p; omega), hb⟩
  have HPW : Hid (getE p = 0 → ∀ (W : World) (B : Option Addr) (k : Nat), Rd W B (getD' p).length k (getD' p) → Calls Tryd.prog 20 #[msgv (getM p) (.slice B (getD' p).length k)] W fun e w' => ∃ B' k', e = .returned (.tuple #[.slice B' np k', .int .i64 0]) ∧ Rd w' B' np k' p ∧ Below W.heap.size W w') := fun h0 W B k hB => by
    have hok : gok p := by
      by_cases h : gok p
      · exact h
      · rw [getE, if_neg h] at h0
        cases h0
    obtain ⟨g1, g2⟩ := put_get hok
    refine (put_any (getM p) B (getD' p).length k (getD' p) W hB).mono ?_
    rintro e w' ⟨B', m', k', rfl, rfl, ho, hb⟩
    rw [g2] at ho
    rw [g1, g2, hlp]
    rw [hlp] at ho
    exact ⟨B', k', rfl, OwnB.rd ho hlp (by omega), hb⟩
  have HT := Lib.hid (fun W h => text_any i W h)
  have HPT : Hid (chk i = 0 → ∀ W, Door W → Errs W → Calls Tryd.prog 29 #[.string ⟨(tB i).toArray⟩] W fun e w' => e = .returned (.tuple #[idv i, .int .i64 0]) ∧ Below W.heap.size W w') := fun h0 W hd he => by
    have e1 : tB i = textB i := if_pos h0
    obtain ⟨g1, g2⟩ := par_text h0
    obtain ⟨o, d, e, c, rfl, h1, h2, h3, h4⟩ := in_nat h0
    have hlen : (textB ⟨(o : Int), (d : Int), (e : Int), (c : Int)⟩).length ≤ 281474976710656 := by
      have := digits_len o h1
      have := digits_len d h2
      have := digits_len e h3
      have := digits_len c h4
      simp [textB]
      omega
    have := parse_any _ W hlen hd he
    rw [g1, g2] at this
    rw [e1]
    exact this
  have HPS := Lib.hid (fun W h k => parse_any t W ht h k)
  have HTP : Hid (parE t = 0 → ∀ W, Door W → Calls Tryd.prog 27 #[idv (parI t)] W fun e w' => e = .returned (.tuple #[.string ⟨t.toArray⟩, .int .i64 0]) ∧ Below W.heap.size W w') := fun h0 W hd => by
    obtain ⟨g1, g2⟩ := text_par h0
    have := text_any (parI t) W hd
    rw [g1, g2] at this
    exact this
  have hdl := getD_len p
  rw [hlp] at hdl
  obtain ⟨G, hG⟩ : ∃ G, G = getM p := ⟨_, rfl⟩
  obtain ⟨d, hdd⟩ : ∃ G, G = getD' p := ⟨_, rfl⟩
  obtain ⟨ge, hge⟩ : ∃ G, G = getE p := ⟨_, rfl⟩
  obtain ⟨tb, htb⟩ : ∃ G, G = tB i := ⟨_, rfl⟩
  obtain ⟨zc, hzc⟩ : ∃ G, G = chk i := ⟨_, rfl⟩
  obtain ⟨J, hJ⟩ : ∃ G, G = parI t := ⟨_, rfl⟩
  obtain ⟨F, hF⟩ : ∃ G, G = parE t := ⟨_, rfl⟩
  rw [← hG, ← hdd, ← hge] at HG
  rw [← hG, ← hdd, ← hge] at HPW
  rw [← htb, ← hzc] at HT HPT
  rw [← hJ, ← hF] at HPS HTP
  rw [← hdd] at hdl
  clear hG hdd hge htb hzc hJ hF hlp
  have HR := Lib.hid hR
  have HP0 := Lib.hid hP
  have HD := Lib.hid hd
  have HE := Lib.hid he
  rw [hln] at HGQ HS
  clear hgp hmbz hz hq hR hP hd he hs hln
  obtain ⟨io, id, ie, ic⟩ := i
  obtain ⟨go_, gd, ge_, gc⟩ := G
  obtain ⟨jo, jd, je, jc⟩ := J
  unfold msgv at HPUT HGQ HS HG HPW ⊢
  unfold idv at HT HPT HPS HTP
  simp only at HG HPW HT HPT HPS HTP
  have hbw := (Below.refl w.heap.size w).alloc (Nat.le_refl _) (.cells #[.int .i64 io, .int .i64 id, .int .i64 ie, .int .i64 ic, .slice A n c] 32)
  have hbx := heap_alloc_new w (.cells #[.int .i64 io, .int .i64 id, .int .i64 ie, .int .i64 ic, .slice A n c] 32)
  have HB0 := Lib.hid hbw
  have HX0 := Lib.hid hbx
  clear hbw hbx
  go_enter Tryd.func9, Tryd.ntmps9
  go_wp2_with fail
  refine (HPUT.out _ HB0.out).mono ?_
  rintro e w1 ⟨A1, m1, c1, rfl, rfl, ho1, hb1⟩
  have HX1 := Lib.hid ((hb1.block w.heap.size (by simp)).trans HX0.out)
  have HB1 := Lib.hid (HB0.out.trans (hb1.mono HB0.out.size))
  have HR1 := Lib.hid (ho1.rd rfl (by omega))
  clear hb1 ho1
  go_upto_if 29 with fail
  go_cut [9, 10] from 28 to 42 (fun s9 s10 wx => Below w1.heap.size w1 wx)
  case first =>
    by_cases h0 : z = 0
    · subst h0
      go_wp2_with fail
      refine (HGQ.out _ A1 c1 HR1.out (by first | rfl | trivial)).mono ?_
      rintro e w2 ⟨B2, k2, rfl, hr2, hb2⟩
      have hx2 := (hb2.block w.heap.size (Array.getElem?_eq_some_iff.1 HX1.out).1).trans HX1.out
      have HR2 := Lib.hid hr2
      have HB2 := Lib.hid hb2
      have k0 := cell_of_cells hx2 0
      have k1 := cell_of_cells hx2 1
      have k2' := cell_of_cells hx2 2
      have k3 := cell_of_cells hx2 3
      have k4 := cell_of_cells hx2 4
      have hlx := (Array.getElem?_eq_some_iff.1 hx2).1
      have hb3 := (Below.refl w2.heap.size w2).alloc (Nat.le_refl _) (.cells #[.int .i64 io, .int .i64 id, .int .i64 ie, .int .i64 ic, .slice B2 n k2] 32)
      have HRA := Lib.hid (((HR.out.below HB1.out).below HB2.out).below hb3)
      have HRB := Lib.hid (HR2.out.below hb3)
      have HB3 := Lib.hid (HB2.out.trans (hb3.mono HB2.out.size))
      clear hr2 hb2 hx2 hb3
      go_wp2_with fail
      refine (HS.out _ _ _ HRA.out HRB.out).mono ?_
      rintro e w3 ⟨rfl, hb4⟩
      go_wp2_with fail
      go_meet
      exact HB3.out.trans (hb4.mono HB3.out.size)
    · have t0 : (z == 0) = false := by simpa using h0
      go_wp2_with fail
      go_meet
      exact Below.refl _ _
  case rest =>
    have hba := hcut
    clear hcut
    have HXa := Lib.hid ((hba.block w.heap.size (Array.getElem?_eq_some_iff.1 HX1.out).1).trans HX1.out)
    have HBa := Lib.hid (HB1.out.trans (hba.mono HB1.out.size))
    clear hba HX1 HB1 HR1 HGQ HS HPUT
    go_wp2_with fail
    refine (HG.out _ (HP0.out.below HBa.out)).mono ?_
    rintro e w2 ⟨B2, k2, rfl, hr2, hb2⟩
    have hxs := (Array.getElem?_eq_some_iff.1 HXa.out).1
    have HX2 := Lib.hid ((hb2.block w.heap.size hxs).trans HXa.out)
    have HB2 := Lib.hid (HBa.out.trans (hb2.mono HBa.out.size))
    have HR2 := Lib.hid hr2
    clear hr2 hb2
    obtain ⟨w3, hwp⟩ : ∃ x, x = w2.alloc (.cells #[.int .i64 go_, .int .i64 gd, .int .i64 ge_, .int .i64 gc, .slice B2 d.length k2] 32) := ⟨_, rfl⟩
    have hbq : Below w2.heap.size w2 w3 := by rw [hwp]; exact (Below.refl _ _).alloc (Nat.le_refl _) _
    have hnq : w3.heap[w2.heap.size]? = some (.cells #[.int .i64 go_, .int .i64 gd, .int .i64 ge_, .int .i64 gc, .slice B2 d.length k2] 32) := by rw [hwp]; exact heap_alloc_new _ _
    have HN3 := Lib.hid hnq
    have HX3 := Lib.hid ((hbq.block w.heap.size (Array.getElem?_eq_some_iff.1 HX2.out).1).trans HX2.out)
    have HB3 := Lib.hid (HB2.out.trans (hbq.mono HB2.out.size))
    have HR3 := Lib.hid (HR2.out.below hbq)
    clear hbq hnq
    go_upto_if 49 with fail
    rw [← hwp]
    clear hwp
    go_cut [13, 14] from 48 to 63 (fun s13 s14 wx => Below w3.heap.size w3 wx)
    case first =>
      by_cases h0 : ge = 0
      · subst h0
        have y0 := cell_of_cells HN3.out 0
        have y1 := cell_of_cells HN3.out 1
        have y2 := cell_of_cells HN3.out 2
        have y3 := cell_of_cells HN3.out 3
        have y4 := cell_of_cells HN3.out 4
        go_wp2_with fail
        refine (HPW.out (by first | rfl | trivial) _ B2 k2 HR3.out).mono ?_
        rintro e w4 ⟨B4, k4', rfl, hr4, hb4⟩
        have hc4 := hr4.string (P := Tryd.prog) 25 9 5 Tryd.underlying25 Tryd.underlying5 Tryd.underlying9
        have hc5 := ((HP0.out.below HB3.out).below hb4).string (P := Tryd.prog) 25 9 5 Tryd.underlying25 Tryd.underlying5 Tryd.underlying9
        have HB4 := Lib.hid hb4
        clear hr4 hb4 y0 y1 y2 y3 y4
        go_wp2_with fail
        go_meet
        exact HB4.out
      · have t0 : (ge == 0) = false := by simpa using h0
        go_wp2_with fail
        go_meet
        exact Below.refl _ _
    case rest =>
      have hb5 := hcut
      obtain ⟨w5, hw5⟩ : ∃ x, x = wc := ⟨_, rfl⟩
      rw [← hw5] at hb5 ⊢
      have hx5 := (hb5.block w.heap.size (Array.getElem?_eq_some_iff.1 HX3.out).1).trans HX3.out
      have HX5 := Lib.hid hx5
      have HB5 := Lib.hid (HB3.out.trans (hb5.mono HB3.out.size))
      clear hcut hw5 hb5 HN3 HX3 HR3 HB3 HPW HG HR2 HX2 HB2
      have k0 := cell_of_cells hx5 0
      have k1 := cell_of_cells hx5 1
      have k2 := cell_of_cells hx5 2
      have k3 := cell_of_cells hx5 3
      clear hx5
      go_wp2_with fail
      refine (HT.out _ (HD.out.below HB5.out)).mono ?_
      rintro e w6 ⟨rfl, hb6⟩
      have HX6 := Lib.hid ((hb6.block w.heap.size (Array.getElem?_eq_some_iff.1 HX5.out).1).trans HX5.out)
      have HB6 := Lib.hid (HB5.out.trans (hb6.mono HB5.out.size))
      clear hb6 k0 k1 k2 k3
      go_upto_if 71 with fail
      go_cut [17, 18] from 70 to 84 (fun s17 s18 wx => Below w6.heap.size w6 wx)
      case first =>
        by_cases h0 : zc = 0
        · subst h0
          go_wp2_with fail
          refine (HPT.out (by first | rfl | trivial) _ (HD.out.below HB6.out) (HE.out.below HB6.out)).mono ?_
          rintro e w7 ⟨rfl, hb7⟩
          have hx7 := (hb7.block w.heap.size (Array.getElem?_eq_some_iff.1 HX6.out).1).trans HX6.out
          have hs7 := (Array.getElem?_eq_some_iff.1 hx7).1
          have HB7 := Lib.hid hb7
          have k0 := cell_of_cells hx7 0
          have k1 := cell_of_cells hx7 1
          have k2 := cell_of_cells hx7 2
          have k3 := cell_of_cells hx7 3
          clear hb7 hx7
          go_wp2_with fail
          go_meet
          exact HB7.out.alloc HB7.out.size _
        · have t0 : (zc == 0) = false := by simpa using h0
          go_wp2_with fail
          go_meet
          exact Below.refl _ _
      case rest =>
        have hb8 := hcut
        obtain ⟨w8, hw8⟩ : ∃ x, x = wc := ⟨_, rfl⟩
        rw [← hw8] at hb8 ⊢
        have HB8 := Lib.hid (HB6.out.trans (hb8.mono HB6.out.size))
        clear hcut hw8 hb8 HB6 HX6 HB5 HX5 HT HPT
        go_wp2_with fail
        refine (HPS.out _ (HD.out.below HB8.out) (HE.out.below HB8.out)).mono ?_
        rintro e w9 ⟨rfl, hb9⟩
        have HB9 := Lib.hid (HB8.out.trans (hb9.mono HB8.out.size))
        clear hb9
        obtain ⟨wA, hwp⟩ : ∃ x, x = w9.alloc (.cells #[.int .i64 jo, .int .i64 jd, .int .i64 je, .int .i64 jc] 23) := ⟨_, rfl⟩
        have hbq : Below w9.heap.size w9 wA := by rw [hwp]; exact (Below.refl _ _).alloc (Nat.le_refl _) _
        have hnq : wA.heap[w9.heap.size]? = some (.cells #[.int .i64 jo, .int .i64 jd, .int .i64 je, .int .i64 jc] 23) := by rw [hwp]; exact heap_alloc_new _ _
        have HNA := Lib.hid hnq
        have HBA := Lib.hid (HB9.out.trans (hbq.mono HB9.out.size))
        clear hbq hnq
        go_upto_if 91 with fail
        rw [← hwp]
        clear hwp
        go_cut [21, 22] from 90 to 103 (fun s21 s22 wx => Below wA.heap.size wA wx)
        case first =>
          by_cases h0 : F = 0
          · subst h0
            have k0 := cell_of_cells HNA.out 0
            have k1 := cell_of_cells HNA.out 1
            have k2 := cell_of_cells HNA.out 2
            have k3 := cell_of_cells HNA.out 3
            go_wp2_with fail
            refine (HTP.out (by first | rfl | trivial) _ (HD.out.below HBA.out)).mono ?_
            rintro e wB ⟨rfl, hbB⟩
            have HBB := Lib.hid hbB
            clear hbB k0 k1 k2 k3
            go_wp2_with fail
            go_meet
            exact HBB.out
          · have t0 : (F == 0) = false := by simpa using h0
            go_wp2_with fail
            go_meet
            exact Below.refl _ _
        case rest =>
          have HBC := Lib.hid (HBA.out.trans (hcut.mono HBA.out.size))
          clear hcut
          go_wp2_with fail
          refine (awake_any _).mono ?_
          rintro e wD ⟨rfl, hbD⟩
          go_wp2
          go_ret
          exact ⟨rfl, HBC.out.trans (hbD.mono HBC.out.size)⟩
end Go.Proofs.YtmdjjlgaflpcfaaDoor
