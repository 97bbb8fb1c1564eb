/-
  THE DOCUMENT's NUMBERS IN A TEXT, AND ITS PARSE.
-/
import Derived.Test.YtmdjjlgaflpcfaaDoorMsgParse
namespace Go.Proofs.YtmdjjlgaflpcfaaDoor
open Go.RowKit Mg

theorem elemN : ElemOf Tryd.prog 50 3 (.int .i64 0) 1 8 := ⟨Tryd.underlying50, by kernel_rfl, rfl, by decide, by decide⟩
/-- numbers' cells -/
def ns (l : List Nat) : List Value := l.map fun (n : Nat) => .int .i64 (n : Int)
theorem ns_len (l : List Nat) : (ns l).length = l.length := by simp [ns]
theorem tnums_len : ∀ (n : Nat) (l : List UInt8), (tnums n l).length ≤ l.length + 1
  | _, [] => by simp [tnums]
  | n, b :: l => by
    unfold tnums
    split
    · have := tnums_len (min (10 * n + (b.toNat - 48)) 65536) l
      simp; omega
    · have := tnums_len 0 l
      simp; omega

set_option maxRecDepth 100000 in
set_option maxHeartbeats 1000000 in
theorem tnums_any (l : List UInt8) (w : World) (hl : l.length ≤ 1048576) : Calls Tryd.prog 41 #[.string ⟨l.toArray⟩] w fun e w' => ∃ A m k, e = .returned (.slice A m k) ∧ m = (tnums 0 l).length ∧ w'.ownsRow w.heap.size 3 1 (.slice A m k) m (ns (tnums 0 l)) ∧ Below w.heap.size w w' := by
  have HT := Lib.hid (tnums_len 0 l)
  obtain ⟨D, hD⟩ : ∃ D, D = tnums 0 l := ⟨_, rfl⟩
  have h0 : D = [] ++ tnums 0 (l.drop 0) := by simp [hD]
  rw [← hD] at HT ⊢
  have H0 := Lib.hid h0
  clear hD h0
  go_enter Tryd.func41, Tryd.ntmps41
  go_wp2_with fail
  go_loopw [3, 4, 5] (fun o v i wr => ∃ (k n : Nat) (A : Option Addr) (c : Nat) (dn : List Nat), i = .int .i64 k ∧ v = .int .i64 n ∧ o = .slice A dn.length c ∧ n ≤ 65536 ∧ dn.length ≤ k ∧ Hid ((k ≤ l.length ∧ D = dn ++ tnums n (l.drop k)) ∨ (k = l.length + 1 ∧ D = dn)) ∧ Hid (wr.ownsRow w.heap.size 3 1 (.slice A dn.length c) dn.length (ns dn)) ∧ Hid (Below w.heap.size w wr)) (fun _ _ i _ => l.length + 1 - (intOf i).toNat)
  case atStart => exact ⟨0, 0, _, 0, [], rfl, rfl, rfl, by omega, Nat.le_refl _, .inl ⟨Nat.zero_le _, H0.out⟩, own_empty w w.heap.size _ _ 1 rfl (Nat.le_refl _), (Below.refl _ _).alloc (Nat.le_refl _) _⟩
  case round =>
    obtain ⟨k, n, A, c, dn, rfl, rfl, rfl, hn, hdk, hq, ho, hb⟩ := hrel
    by_cases h1 : k ≤ l.length
    · have hD1 : D = dn ++ tnums n (l.drop k) := by
        rcases hq.out with ⟨_, h⟩ | ⟨h, _⟩
        · exact h
        · omega
      by_cases h2 : k < l.length
      · obtain ⟨x, hx, hgx⟩ : ∃ x, l.drop k = x :: l.drop (k + 1) ∧ ∀ (h : k < (⟨l.toArray⟩ : ByteArray).size), (⟨l.toArray⟩ : ByteArray)[k]'h = x := ⟨l[k], List.drop_eq_getElem_cons h2, fun _ => rfl⟩
        rw [hx] at hD1
        have h256 := x.toNat_lt
        rw [tnums] at hD1
        obtain ⟨X, hX⟩ : ∃ X : Nat, X = x.toNat := ⟨_, rfl⟩
        have hgy : ∀ (h : k < (⟨l.toArray⟩ : ByteArray).size), (((⟨l.toArray⟩ : ByteArray)[k]'h).toNat : Nat) = X := fun h => by rw [hgx h, hX]
        rw [← hX] at hD1 h256
        have HD1 := Lib.hid hD1
        have kb0 : (0 : Int) ≤ (k : Int) := by omega
        have kb1 : (k : Int) < (l.length : Int) := by omega
        have kb2 : (k : Int) ≤ (l.length : Int) := by omega
        have kb3 : (k : Int) ≤ 1048576 := by omega
        have nb0 : (0 : Int) ≤ (n : Int) := by omega
        have nb1 : (n : Int) ≤ 65536 := by omega
        clear hD1 hx hgx hX hq
        by_cases hdg : 48 ≤ X ∧ X ≤ 57
        · have d1 : (48 : Int) ≤ (X : Int) := by omega
          have d2 : (X : Int) ≤ 57 := by omega
          go_wp2_with fail
          go_roundw
          case rel =>
            have hm : min (10 * (n : Int) + (X : Int) - 48) 65536 = ((min (10 * n + (X - 48)) 65536 : Nat) : Int) := by omega
            exact ⟨k + 1, min (10 * n + (X - 48)) 65536, A, c, dn, by go_num, by rw [hm], rfl, by omega, by omega, .inl ⟨by omega, by rw [HD1.out, if_pos hdg]⟩, ho, hb⟩
          case measure => simp [intOf] <;> omega
        · rcases (by omega : X < 48 ∨ (48 ≤ X ∧ 57 < X)) with hx | ⟨hx, hy⟩
          · have d1 : (X : Int) < 48 := by omega
            go_wp2_with ((with_reducible show wpList _ _ _ (⟨some 41, _, _, _, _, _⟩ :: _) _ _); refine wpList_app _ rfl elemN (.tmp 38) (.tmp 40) rfl rfl (ho.out.alloc _) rfl (Src.new' wr _ rfl [_] _ 1 1 rfl (by simp [Value.oneCell'])) (dn.length + 1) rfl (by omega) (by have := hb.out.size; simp; omega) ?_; intro A2 c2 w2 hown2 hg2 hat2)
            have HO2 := Lib.hid hown2
            have HB2 := Lib.hid (below_app' (hb.out.alloc hb.out.size (.cells #[.int .i64 (n : Int)] 3)) (ho.out.alloc _) hg2 (Nat.le_refl _) (by have := hb.out.size; simp; omega))
            clear hown2 hg2 hat2
            go_roundw
            case rel =>
              have hl9 : (dn ++ [n]).length = dn.length + 1 := by simp
              refine ⟨k + 1, 0, A2, c2, dn ++ [n], by go_num, rfl, by rw [hl9], by omega, by rw [hl9]; omega, .inl ⟨by omega, by rw [HD1.out, if_neg hdg, List.append_assoc]; rfl⟩, ?_, HB2.out⟩
              rw [hl9]
              have e9 : ns (dn ++ [n]) = ns dn ++ [.int .i64 (n : Int)] := by simp [ns]
              rw [e9]
              exact HO2.out
            case measure => simp [intOf] <;> omega
          · have d1 : (48 : Int) ≤ (X : Int) := by omega
            have d2 : (57 : Int) < (X : Int) := by omega
            go_wp2_with ((with_reducible show wpList _ _ _ (⟨some 41, _, _, _, _, _⟩ :: _) _ _); refine wpList_app _ rfl elemN (.tmp 38) (.tmp 40) rfl rfl (ho.out.alloc _) rfl (Src.new' wr _ rfl [_] _ 1 1 rfl (by simp [Value.oneCell'])) (dn.length + 1) rfl (by omega) (by have := hb.out.size; simp; omega) ?_; intro A2 c2 w2 hown2 hg2 hat2)
            have HO2 := Lib.hid hown2
            have HB2 := Lib.hid (below_app' (hb.out.alloc hb.out.size (.cells #[.int .i64 (n : Int)] 3)) (ho.out.alloc _) hg2 (Nat.le_refl _) (by have := hb.out.size; simp; omega))
            clear hown2 hg2 hat2
            go_roundw
            case rel =>
              have hl9 : (dn ++ [n]).length = dn.length + 1 := by simp
              refine ⟨k + 1, 0, A2, c2, dn ++ [n], by go_num, rfl, by rw [hl9], by omega, by rw [hl9]; omega, .inl ⟨by omega, by rw [HD1.out, if_neg hdg, List.append_assoc]; rfl⟩, ?_, HB2.out⟩
              rw [hl9]
              have e9 : ns (dn ++ [n]) = ns dn ++ [.int .i64 (n : Int)] := by simp [ns]
              rw [e9]
              exact HO2.out
            case measure => simp [intOf] <;> omega
      · obtain rfl : k = l.length := by omega
        rw [List.drop_length] at hD1
        have HD1 := Lib.hid hD1
        have kb3 : (l.length : Int) ≤ 1048576 := by omega
        clear hD1 hq
        go_wp2_with ((with_reducible show wpList _ _ _ (⟨some 41, _, _, _, _, _⟩ :: _) _ _); refine wpList_app _ rfl elemN (.tmp 38) (.tmp 40) rfl rfl (ho.out.alloc _) rfl (Src.new' wr _ rfl [_] _ 1 1 rfl (by simp [Value.oneCell'])) (dn.length + 1) rfl (by omega) (by have := hb.out.size; simp; omega) ?_; intro A2 c2 w2 hown2 hg2 hat2)
        have HO2 := Lib.hid hown2
        have HB2 := Lib.hid (below_app' (hb.out.alloc hb.out.size (.cells #[.int .i64 (n : Int)] 3)) (ho.out.alloc _) hg2 (Nat.le_refl _) (by have := hb.out.size; simp; omega))
        clear hown2 hg2 hat2
        go_roundw
        case rel =>
          have hl9 : (dn ++ [n]).length = dn.length + 1 := by simp
          refine ⟨l.length + 1, 0, A2, c2, dn ++ [n], by go_num, rfl, by rw [hl9], by omega, by rw [hl9]; omega, .inr ⟨rfl, by rw [HD1.out, tnums]⟩, ?_, HB2.out⟩
          rw [hl9]
          have e9 : ns (dn ++ [n]) = ns dn ++ [.int .i64 (n : Int)] := by simp [ns]
          rw [e9]
          exact HO2.out
        case measure => simp [intOf] <;> omega
    · have hD1 : k = l.length + 1 ∧ D = dn := by
        rcases hq.out with ⟨h, _⟩ | h
        · omega
        · exact h
      obtain ⟨rfl, rfl⟩ := hD1
      have kb1 : (l.length : Int) < (l.length : Int) + 1 := by omega
      clear hq
      go_wp2
      go_ret
      exact ⟨A, _, c, rfl, rfl, ho.out, hb.out⟩

set_option maxRecDepth 100000 in
set_option maxHeartbeats 2000000 in
theorem rparse_any (l : List UInt8) (w : World) (hl : l.length ≤ 1048576) : Calls Tryd.prog 30 #[.string ⟨l.toArray⟩] w fun e w' => e = .returned (.tuple #[idv (rparI l), .int .i64 (rparE l)]) ∧ Below w.heap.size w w' := by
  have HNU := Lib.hid (fun W => tnums_any l W hl)
  have hlen := tnums_len 0 l
  obtain ⟨D, hD⟩ : ∃ D, D = tnums 0 l := ⟨_, rfl⟩
  rw [← hD] at HNU hlen
  have hb0 := (Below.refl w.heap.size w).alloc (Nat.le_refl _) (.cells #[.int .i64 0, .int .i64 0, .int .i64 0, .int .i64 0] 23)
  have hz0 := heap_alloc_new w (.cells #[.int .i64 0, .int .i64 0, .int .i64 0, .int .i64 0] 23)
  have HB0 := Lib.hid hb0
  have HZ0 := Lib.hid hz0
  clear hb0 hz0
  by_cases h4 : D.length = 4
  · obtain ⟨m0, m1, m2, m3, hD4⟩ := lit4 h4
    have HT := Lib.hid (fun W => rtext_any (rI l) W)
    have hcase : (chk (rI l) = 0 ∧ tB (rI l) = l ∧ rparI l = rI l ∧ rparE l = 0) ∨ (chk (rI l) = 0 ∧ tB (rI l) ≠ l ∧ rparI l = mid0 ∧ rparE l = 2) ∨ (chk (rI l) ≠ 0 ∧ rparI l = mid0 ∧ rparE l = 2) := by
      have h4' : (tnums 0 l).length = 4 := by rw [← hD]; exact h4
      by_cases h : chk (rI l) = 0
      · have e : tB (rI l) = textB (rI l) := if_pos h
        by_cases h2 : textB (rI l) = l
        · exact .inl ⟨h, by rw [e, h2], if_pos ⟨h4', h, h2⟩, if_pos ⟨h4', h, h2⟩⟩
        · exact .inr (.inl ⟨h, by rw [e]; exact h2, if_neg fun k => h2 k.2.2, if_neg fun k => h2 k.2.2⟩)
      · exact .inr (.inr ⟨h, if_neg fun k => h k.2.1, if_neg fun k => h k.2.1⟩)
    have hN : rI l = ⟨(m0 : Int), (m1 : Int), (m2 : Int), (m3 : Int)⟩ := by unfold rI; rw [← hD, hD4]; rfl
    rw [hN] at HT hcase
    subst hD4
    obtain ⟨P, hP⟩ : ∃ P, P = rparI l := ⟨_, rfl⟩
    obtain ⟨F, hF⟩ : ∃ P, P = rparE l := ⟨_, rfl⟩
    rw [← hP, ← hF] at hcase ⊢
    obtain ⟨n0, g0⟩ : ∃ n : Int, n = m0 := ⟨_, rfl⟩
    obtain ⟨n1, g1⟩ : ∃ n : Int, n = m1 := ⟨_, rfl⟩
    obtain ⟨n2, g2⟩ : ∃ n : Int, n = m2 := ⟨_, rfl⟩
    obtain ⟨n3, g3⟩ : ∃ n : Int, n = m3 := ⟨_, rfl⟩
    have hns : ns [m0, m1, m2, m3] = [.int .i64 n0, .int .i64 n1, .int .i64 n2, .int .i64 n3] := by rw [g0, g1, g2, g3]; rfl
    rw [hns] at HNU
    rw [← g0, ← g1, ← g2, ← g3] at HT hcase
    obtain ⟨tb, htb⟩ : ∃ P, P = tB ⟨n0, n1, n2, n3⟩ := ⟨_, rfl⟩
    obtain ⟨z, hz⟩ : ∃ P, P = chk ⟨n0, n1, n2, n3⟩ := ⟨_, rfl⟩
    rw [← htb, ← hz] at HT hcase
    have HCASE := Lib.hid hcase
    clear hcase hN hP hF htb hz hns g0 g1 g2 g3 hD h4 hlen
    unfold idv at HT
    simp only at HT
    go_enter Tryd.func30, Tryd.ntmps30
    go_wp2_with fail
    refine (HNU.out _).mono ?_
    rintro e w1 ⟨A, m, c, rfl, rfl, ho, hb1⟩
    have hrow := ho
    obtain ⟨g, cap, hv, hgb, hgl⟩ := World.ownsRow.form ho (by simp)
    injection hv with hv1 hv2 hv3
    subst hv1
    have c0 := World.ownsRow.cellAt ho 0 (by simp)
    have c1 := World.ownsRow.cellAt ho 1 (by simp)
    have c2 := World.ownsRow.cellAt ho 2 (by simp)
    have c3 := World.ownsRow.cellAt ho 3 (by simp)
    have hs0 : w.heap.size < w1.heap.size := by have := hb1.size; simp at this; omega
    have HZ1 := Lib.hid ((hb1.block w.heap.size (by simp)).trans HZ0.out)
    have HB1 := Lib.hid (HB0.out.trans (hb1.mono HB0.out.size))
    clear hb1
    go_wp2_with fail
    go_region
    obtain ⟨w5, hw5⟩ : ∃ w5, w5 = (w1.alloc (.cells #[.int .i64 n0, .int .i64 n1, .int .i64 n2, .int .i64 n3] 23)).drew := ⟨_, rfl⟩
    have hb5 : Below w1.heap.size w1 w5 := by rw [hw5]; exact ((Below.refl _ _).alloc (Nat.le_refl _) _).drew
    have hn5 : w5.heap[w1.heap.size]? = some (.cells #[.int .i64 n0, .int .i64 n1, .int .i64 n2, .int .i64 n3] 23) := by rw [hw5]; exact heap_alloc_new _ _
    rw [← hw5]
    clear hw5 c0 c1 c2 c3 ho hrow
    have HZ5 := Lib.hid ((hb5.block w.heap.size hs0).trans HZ1.out)
    have HB5 := Lib.hid (HB1.out.trans (hb5.mono (by omega)))
    have HN5 := Lib.hid hn5
    have hn5s : w1.heap.size < w5.heap.size := (Array.getElem?_eq_some_iff.1 hn5).1
    have q0 := cell_of_cells hn5 0
    have q1 := cell_of_cells hn5 1
    have q2 := cell_of_cells hn5 2
    have q3 := cell_of_cells hn5 3
    clear hb5 hn5
    go_wp2_with fail
    refine (HT.out _).mono ?_
    rintro e w6 ⟨rfl, hb6⟩
    have hz6 := (hb6.block w.heap.size (by omega)).trans HZ5.out
    have hn6 := (hb6.block w1.heap.size hn5s).trans HN5.out
    have HB6 := Lib.hid (HB5.out.trans (hb6.mono (by omega)))
    have r0 := cell_of_cells hz6 0
    have r1 := cell_of_cells hz6 1
    have r2 := cell_of_cells hz6 2
    have r3 := cell_of_cells hz6 3
    have i0 := cell_of_cells hn6 0
    have i1 := cell_of_cells hn6 1
    have i2 := cell_of_cells hn6 2
    have i3 := cell_of_cells hn6 3
    have f0 := frozen_of_row w6 w.heap.size 0 _ _ hz6
    have f1 := frozen_of_row w6 w.heap.size 1 _ _ hz6
    have f2 := frozen_of_row w6 w.heap.size 2 _ _ hz6
    have f3 := frozen_of_row w6 w.heap.size 3 _ _ hz6
    have HZ6 := Lib.hid hz6
    clear hz6 hn6 hb6 q0 q1 q2 q3
    rcases HCASE.out with ⟨rfl, rfl, rfl, rfl⟩ | ⟨rfl, h2, rfl, rfl⟩ | ⟨h2, rfl, rfl⟩
    · clear HCASE
      have hst := sets_heap0 (vs := [.int .i64 n0, .int .i64 n1, .int .i64 n2, .int .i64 n3]) (us := [.int .i64 0, .int .i64 0, .int .i64 0, .int .i64 0]) HZ6.out rfl
      have hbe := sets_below (Nat.le_refl w.heap.size) [.int .i64 n0, .int .i64 n1, .int .i64 n2, .int .i64 n3] 0 w6 HB6.out
      simp only [sets, Nat.zero_add, Nat.reduceAdd] at hst hbe
      have HST := Lib.hid hst
      have HBE := Lib.hid hbe
      clear hst hbe
      go_wp2
      refine bodyPost_ret (results_cell2 rfl _ _ w.heap.size _ _ _ _ rfl HST.out Tryd.underlying23 rfl (by kernel_rfl)) rfl ?_
      exact ⟨rfl, HBE.out⟩
    · have t0 : (tb == l) = false := by simpa using h2
      clear HCASE h2
      have hst := sets_heap0 (vs := [.int .i64 0, .int .i64 0, .int .i64 0, .int .i64 0]) (us := [.int .i64 0, .int .i64 0, .int .i64 0, .int .i64 0]) HZ6.out rfl
      have hbe := sets_below (Nat.le_refl w.heap.size) [.int .i64 0, .int .i64 0, .int .i64 0, .int .i64 0] 0 w6 HB6.out
      simp only [sets, Nat.zero_add, Nat.reduceAdd] at hst hbe
      have HST := Lib.hid hst
      have HBE := Lib.hid hbe
      clear hst hbe
      go_wp2
      refine bodyPost_ret (results_cell2 rfl _ _ w.heap.size _ _ _ _ rfl HST.out Tryd.underlying23 rfl (by kernel_rfl)) rfl ?_
      exact ⟨rfl, HBE.out⟩
    · have t0 : (z != 0) = true := by simpa using h2
      clear HCASE h2
      have hst := sets_heap0 (vs := [.int .i64 0, .int .i64 0, .int .i64 0, .int .i64 0]) (us := [.int .i64 0, .int .i64 0, .int .i64 0, .int .i64 0]) HZ6.out rfl
      have hbe := sets_below (Nat.le_refl w.heap.size) [.int .i64 0, .int .i64 0, .int .i64 0, .int .i64 0] 0 w6 HB6.out
      simp only [sets, Nat.zero_add, Nat.reduceAdd] at hst hbe
      have HST := Lib.hid hst
      have HBE := Lib.hid hbe
      clear hst hbe
      go_wp2
      refine bodyPost_ret (results_cell2 rfl _ _ w.heap.size _ _ _ _ rfl HST.out Tryd.underlying23 rfl (by kernel_rfl)) rfl ?_
      exact ⟨rfl, HBE.out⟩
  · have e1 : rparI l = mid0 := if_neg fun k => h4 (by rw [hD]; exact k.1)
    have e2 : rparE l = 2 := if_neg fun k => h4 (by rw [hD]; exact k.1)
    rw [e1, e2]
    have t0 : ((D.length : Int) != 4) = true := by simp; omega
    clear hD e1 e2 h4
    unfold idv mid0
    go_enter Tryd.func30, Tryd.ntmps30
    go_wp2_with fail
    refine (HNU.out _).mono ?_
    rintro e w6 ⟨A, m, c, rfl, rfl, _, hb6⟩
    have hz6 := (hb6.block w.heap.size (by simp)).trans HZ0.out
    have HB6 := Lib.hid (HB0.out.trans (hb6.mono HB0.out.size))
    have r0 := cell_of_cells hz6 0
    have r1 := cell_of_cells hz6 1
    have r2 := cell_of_cells hz6 2
    have r3 := cell_of_cells hz6 3
    have f0 := frozen_of_row w6 w.heap.size 0 _ _ hz6
    have f1 := frozen_of_row w6 w.heap.size 1 _ _ hz6
    have f2 := frozen_of_row w6 w.heap.size 2 _ _ hz6
    have f3 := frozen_of_row w6 w.heap.size 3 _ _ hz6
    have HZ6 := Lib.hid hz6
    clear hz6 hb6
    have hst := sets_heap0 (vs := [.int .i64 0, .int .i64 0, .int .i64 0, .int .i64 0]) (us := [.int .i64 0, .int .i64 0, .int .i64 0, .int .i64 0]) HZ6.out rfl
    have hbe := sets_below (Nat.le_refl w.heap.size) [.int .i64 0, .int .i64 0, .int .i64 0, .int .i64 0] 0 w6 HB6.out
    simp only [sets, Nat.zero_add, Nat.reduceAdd] at hst hbe
    have HST := Lib.hid hst
    have HBE := Lib.hid hbe
    clear hst hbe
    go_wp2
    refine bodyPost_ret (results_cell2 rfl _ _ w.heap.size _ _ _ _ rfl HST.out Tryd.underlying23 rfl (by kernel_rfl)) rfl ?_
    exact ⟨rfl, HBE.out⟩
end Go.Proofs.YtmdjjlgaflpcfaaDoor
