/-
  THE DOCUMENT's PARTS.
-/
import Derived.Test.YtiffbmnenbnglaaStuffPart
import Derived.Test.YtiffbmnenbnglaaOwn
import Derived.Deep.DeepCutAuto
namespace Go.Proofs.Ytiffbmnenbnglaa
open Go.RowKit

theorem elemLL : ElemOf Try.prog 35 22 (.slice none 0 0) 1 24 := ⟨Try.underlying35, by kernel_rfl, rfl, by decide, by decide⟩
/-- a row of the call's own, of bytes of its own -/
def Lst (w : World) (B : Nat) (v : Value) (ls : List (List UInt8)) : Prop :=
  ∃ xs, w.ownsRow B 22 1 v ls.length xs ∧ ∀ (j : Nat) (l : List UInt8), ls[j]? = some l → ∃ (A : Option Addr) (c : Nat), xs[j]? = some (Value.slice A l.length c) ∧ Sl w B 5 (.slice A l.length c) l.length (bs l)
theorem Lst.below {w w' : World} {B : Nat} {v : Value} {ls : List (List UInt8)} (h : Lst w B v ls) (hb : Below w.heap.size w w') : Lst w' B v ls := by
  obtain ⟨xs, h1, h2⟩ := h
  refine ⟨xs, own_below h1 hb, fun j l hj => ?_⟩
  obtain ⟨A, c, e, hs⟩ := h2 j l hj
  exact ⟨A, c, e, hs.kept fun k hk => hb.block k (hs.lt k hk).2⟩
theorem own_type {w : World} {B : Nat} {e : TypeId} {size : Nat} {v : Value} {n : Nat} {xs : List Value} (h : w.ownsRow B e size v n xs) {k : Nat} (hk : v.ownBlock = some k) : ∃ cur, w.heap[k]? = some (.cells cur e (0, 0)) := by
  rcases h.2 with ⟨rfl, _⟩ | ⟨g, cap, cur, rfl, _, hg, _⟩
  · simp [Value.ownBlock] at hk
  · simp [Value.ownBlock] at hk
    subst hk
    exact ⟨cur, hg⟩
theorem sl_grown {w w' : World} {B : Nat} {v u : Value} {n m : Nat} {xs ys : List Value} (h : w.ownsRow B 22 1 v n xs) (hg : w.grownBy w' v.ownBlock) (hs : Sl w B 5 u m ys) : Sl w' B 5 u m ys := by
  refine hs.kept fun k hk => hg.block k (hs.lt k hk).2 fun e => ?_
  obtain ⟨c1, h1⟩ := own_type h e.symm
  obtain ⟨c2, h2⟩ := hs.type k hk
  rw [h1] at h2
  injection h2 with h2
  injection h2 with _ h2
  exact absurd h2 (by decide)
/-- one more -/
theorem Lst.snoc {w w' : World} {B : Nat} {v v' : Value} {ls : List (List UInt8)} {xs : List Value} {A : Option Addr} {c : Nat} {l : List UInt8} (h1 : w.ownsRow B 22 1 v ls.length xs)
    (h2 : ∀ (j : Nat) (l : List UInt8), ls[j]? = some l → ∃ (A : Option Addr) (c : Nat), xs[j]? = some (Value.slice A l.length c) ∧ Sl w B 5 (.slice A l.length c) l.length (bs l))
    (hl : Sl w B 5 (.slice A l.length c) l.length (bs l)) (hg : w.grownBy w' v.ownBlock) (ho : w'.ownsRow B 22 1 v' (ls.length + 1) (xs ++ [.slice A l.length c])) : Lst w' B v' (ls ++ [l]) := by
  have hx : xs.length = ls.length := by have := h1.1; omega
  refine ⟨xs ++ [.slice A l.length c], by rw [List.length_append]; exact ho, fun j q hj => ?_⟩
  rw [List.getElem?_append] at hj
  split at hj
  · rename_i hlt
    obtain ⟨A', c', e, hs⟩ := h2 j q hj
    exact ⟨A', c', by rw [List.getElem?_append_left (by omega)]; exact e, sl_grown h1 hg hs⟩
  · rename_i hge
    have hj0 : j - ls.length = 0 := by
      have := (List.getElem?_eq_some_iff.1 hj).1
      simp at this
      omega
    rw [hj0] at hj
    obtain rfl : l = q := by simpa using hj
    refine ⟨A, c, ?_, sl_grown h1 hg hl⟩
    rw [List.getElem?_append_right (by omega), hx, hj0]
    rfl

set_option maxRecDepth 100000 in
set_option maxHeartbeats 1000000 in
theorem rparts_any (A : Option Addr) (n c : Nat) (l : List UInt8) (w : World) (hR : Rd w A n c l) (hn : n ≤ 1048576) : Calls Try.prog 18 #[.slice A n c] w fun e w' => ∃ A' m k, e = .returned (.slice A' m k) ∧ m = (parts l).length ∧ Lst w' w.heap.size (.slice A' m k) (parts l) ∧ Below w.heap.size w w' := by
  have hl := hR.len
  have hD0 : parts l = [] ++ ahead ((l.drop 0).take (0 - 0)) (parts (l.drop 0)) := by simp [ahead_nil]
  have hpl := parts_len l
  obtain ⟨D, hD⟩ : ∃ D, D = parts l := ⟨_, rfl⟩
  rw [← hD] at hD0 hpl ⊢
  have H0 := Lib.hid hD0
  have HPL := Lib.hid hpl
  have HR := Lib.hid hR
  have HL := Lib.hid hl
  clear hD hD0 hpl hR hl
  go_enter Try.func18, Try.ntmps18
  go_wp2_with fail
  go_loopw [3, 4, 5] (fun o v i wr => ∃ (k fr : Nat) (Ao : Option Addr) (co : Nat) (dn : List (List UInt8)), i = .int .i64 k ∧ v = .int .i64 fr ∧ o = .slice Ao dn.length co ∧ fr ≤ k ∧ dn.length ≤ k ∧ Hid ((k ≤ n ∧ D = dn ++ ahead ((l.drop fr).take (k - fr)) (parts (l.drop k))) ∨ (k = n + 1 ∧ D = dn)) ∧ Hid (Lst wr w.heap.size (.slice Ao dn.length co) dn) ∧ Hid (Below w.heap.size w wr)) (fun _ _ i _ => n + 1 - (intOf i).toNat)
  case atStart => exact ⟨0, 0, _, 0, [], rfl, rfl, rfl, Nat.le_refl _, Nat.le_refl _, .inl ⟨Nat.zero_le _, H0.out⟩, ⟨[], own_empty w w.heap.size _ _ 1 rfl (Nat.le_refl _), fun j q h => by simp at h⟩, (Below.refl _ _).alloc (Nat.le_refl _) _⟩
  case round =>
    obtain ⟨k, fr, Ao, co, dn, rfl, rfl, rfl, hfk, hdk, hq, ho, hb⟩ := hrel
    by_cases h1 : k ≤ n
    · have hD1 : D = dn ++ ahead ((l.drop fr).take (k - fr)) (parts (l.drop k)) := by
        rcases hq.out with ⟨_, h⟩ | ⟨h, _⟩
        · exact h
        · omega
      have HB := Lib.hid hb.out
      have HRr := Lib.hid (HR.out.below hb.out)
      by_cases h2 : k < n
      · obtain ⟨b, off, x, rfl, hbl, hx, hcx⟩ := HRr.out.at' h2
        have hlk : l.drop k = x :: l.drop (k + 1) := by
          have h3 : k < l.length := by rw [HL.out]; exact h2
          rw [List.drop_eq_getElem_cons h3]
          congr 1
          rw [List.getElem?_eq_getElem h3] at hx
          exact Option.some.inj hx
        have htk : (l.drop fr).take (k - fr) ++ [x] = (l.drop fr).take (k + 1 - fr) := by
          rw [show k + 1 - fr = (k - fr) + 1 by omega, List.take_add_one]
          congr 1
          rw [List.getElem?_drop, show fr + (k - fr) = k by omega, hx]
          rfl
        by_cases hfl : x = 0x7e
        · skip
          have hs : Rd wr (some ⟨b, off + fr, none⟩) (k - fr) (c - fr) ((l.drop fr).take (k - fr)) := by
            have hcap := HRr.out.cap
            have h9 := (HRr.out.drop (k := fr) (by omega)).take (k := k - fr) (by omega)
            simpa [show ¬ c = fr by omega, add_none] using h9
          have HD2 : Hid (D = (dn ++ [(l.drop fr).take (k - fr)]) ++ ahead ((l.drop (k + 1)).take (k + 1 - (k + 1))) (parts (l.drop (k + 1)))) := by
            show D = _
            rw [hD1, hlk, hfl, ahead_flag, Nat.sub_self, List.take_zero, ahead_nil, List.append_assoc]
            rfl
          have hcf : ¬ c = fr := by have := HRr.out.cap; omega
          have hkc : k ≤ c := by have := HRr.out.cap; omega
          have kb0 : (0 : Int) ≤ (k : Int) := by omega
          have kb1 : (k : Int) < (n : Int) := by omega
          have kb2 : (k : Int) ≤ 1048576 := by omega
          have kb3 : (fr : Int) ≤ (k : Int) := by omega
          have kb4 : (0 : Int) ≤ (fr : Int) := by omega
          unfold bv at hcx
          rw [hfl] at hcx
          clear hD1 hq hx hlk htk hfl
          obtain ⟨u, hu⟩ : ∃ u, u = (l.drop fr).take (k - fr) := ⟨_, rfl⟩
          rw [← hu] at hs HD2
          have hul : u.length = k - fr := hs.len
          obtain ⟨xs, hx1, hx2⟩ := ho.out
          have O1 := Lib.hid hx1
          have X2 := Lib.hid hx2
          have HS := Lib.hid hs
          have HUL := Lib.hid hul
          clear hs hx1 hx2 hu hul
          go_wp2_with (first
            | ((with_reducible show wpList _ _ _ (⟨some 30, _, _, _, _, _⟩ :: _) _ _); refine wpList_app _ rfl elemB (.tmp 25) (.tmp 29) rfl rfl (own_empty wr wr.heap.size _ _ 1 rfl (Nat.le_refl _)) rfl ((HS.out.stays (Stays.alloc wr _)).src) (k - fr) (by omega) (by omega) (by simp) ?_; intro A1 c1 w1 hown1 hg1 hat1; have HB1 := Lib.hid (below_app' ((Below.refl wr.heap.size wr).alloc (Nat.le_refl _) _) (own_empty wr wr.heap.size _ _ 1 rfl (Nat.le_refl _)) hg1 (Nat.le_refl _) (by simp)); have HO1 := Lib.hid (Sl.of_row hown1); clear hown1 hg1 hat1; have hs1 := HB1.out.size; have hs0 := HB.out.size)
            | ((with_reducible show wpList _ _ _ (⟨some 32, _, _, _, _, _⟩ :: _) _ _); refine wpList_app _ rfl elemLL (.tmp 24) (.tmp 31) rfl rfl ((own_below O1.out HB1.out).alloc _) rfl (Src.new' w1 _ rfl [_] _ 1 1 rfl (by simp [Value.oneCell'])) (dn.length + 1) rfl (by omega) (by simp; omega) ?_; intro A3 c3 w3 hown3 hg3 hat3; have HO3 := Lib.hid hown3; have HG3 := Lib.hid hg3; clear hown3 hg3 hat3))
          have HL3 : Hid (Lst w3 w.heap.size (.slice A3 (dn.length + 1) c3) (dn ++ [u])) := by
            have hb1 : Below w1.heap.size w1 (w1.alloc (.cells #[.slice A1 (k - fr) c1] 22)) := (Below.refl _ _).alloc (Nat.le_refl _) _
            have he := (HO1.out.kept fun q hq => hb1.block q (HO1.out.lt q hq).2).base (B' := w.heap.size) fun q hq => by have := (HO1.out.lt q hq).1; omega
            have he2 : Sl (w1.alloc (.cells #[.slice A1 (k - fr) c1] 22)) w.heap.size 5 (.slice A1 u.length c1) u.length (bs u) := by rw [HUL.out]; simpa using he
            refine Lst.snoc (own_below (own_below O1.out HB1.out) hb1) (fun j q hj => ?_) he2 HG3.out (by rw [HUL.out]; exact HO3.out)
            obtain ⟨A', c', e, hsl⟩ := X2.out j q hj
            exact ⟨A', c', e, (hsl.kept fun m hm => HB1.out.block m (hsl.lt m hm).2).kept fun m hm => hb1.block m (Nat.lt_of_lt_of_le (hsl.lt m hm).2 hs1)⟩
          have HB3 : Hid (Below w.heap.size w w3) := by
            have hb1 := HB.out.trans (HB1.out.mono hs0)
            exact below_app' (hb1.alloc hb1.size _) ((own_below O1.out HB1.out).alloc _) HG3.out (Nat.le_refl _) (by have := hb1.size; simp; omega)
          have hl9 : (dn ++ [u]).length = dn.length + 1 := by simp
          clear O1 X2 HS HO1 HB1 HO3 HG3
          go_roundw
          case rel => exact ⟨k + 1, k + 1, A3, c3, dn ++ [u], by go_num, by go_num, by rw [hl9], Nat.le_refl _, by rw [hl9]; omega, .inl ⟨by omega, HD2.out⟩, by rw [hl9]; exact HL3.out, HB3.out⟩
          case measure => simp [intOf] <;> omega
        · have HD2 : Hid (D = dn ++ ahead ((l.drop fr).take (k + 1 - fr)) (parts (l.drop (k + 1)))) := by
            show D = _
            rw [hD1, hlk, ahead_other _ _ _ hfl, htk]
          have t0 : ((x.toNat : Int) == 126) = false := by
            rw [beq_eq_false_iff_ne]
            intro e
            apply hfl
            rw [← UInt8.toNat_inj]
            have : x.toNat = 126 := by omega
            rw [this]
            rfl
          have kb0 : (0 : Int) ≤ (k : Int) := by omega
          have kb1 : (k : Int) < (n : Int) := by omega
          have kb2 : (k : Int) ≤ 1048576 := by omega
          clear hD1 hq hx hlk htk hfl
          unfold bv at hcx
          go_wp2_with fail
          go_roundw
          case rel => exact ⟨k + 1, fr, Ao, co, dn, by go_num, rfl, rfl, by omega, by omega, .inl ⟨by omega, HD2.out⟩, ho, hb⟩
          case measure => simp [intOf] <;> omega
      · obtain rfl : k = n := by omega
        have hdl : l.drop k = [] := List.drop_eq_nil_of_le (by rw [HL.out]; exact Nat.le_refl _)
        by_cases hfe : fr = k
        · subst hfe
          have HD2 : Hid (D = dn ++ [[]]) := by
            show D = _
            rw [hD1, hdl, Nat.sub_self, List.take_zero, ahead_end]
          have hkc : fr ≤ c := by have := HRr.out.cap; omega
          have kb2 : (fr : Int) ≤ 1048576 := by omega
          have kb4 : (0 : Int) ≤ (fr : Int) := by omega
          clear hD1 hq hdl
          obtain ⟨xs, hx1, hx2⟩ := ho.out
          have O1 := Lib.hid hx1
          have X2 := Lib.hid hx2
          clear hx1 hx2
          go_upto_region 7 with fail
          have hz : (A = none ∧ fr = 0) ∨ (∃ a, A = some a ∧ c = fr) ∨ (∃ a, A = some a ∧ ¬ c = fr) := by
            cases A with
            | none =>
              refine .inl ⟨rfl, ?_⟩
              rcases Nat.eq_zero_or_pos fr with h | h
              · exact h
              · obtain ⟨b, off, e, _⟩ := HRr.out.at_ h
                cases e
            | some a =>
              by_cases h : c = fr
              · exact .inr (.inl ⟨a, rfl, h⟩)
              · exact .inr (.inr ⟨a, rfl, h⟩)
          rcases hz with ⟨rfl, rfl⟩ | ⟨a, rfl, rfl⟩ | ⟨a, rfl, hcf⟩
          all_goals
            go_wp2_with (first
              | ((with_reducible show wpList _ _ _ (⟨some 30, _, _, _, _, _⟩ :: _) _ _); refine wpList_app _ rfl elemB (.tmp 25) (.tmp 29) rfl rfl (own_empty wr wr.heap.size _ _ 1 rfl (Nat.le_refl _)) rfl ((Rd.nil _ _ 0).src) 0 (by omega) (by omega) (by simp) ?_; intro A1 c1 w1 hown1 hg1 hat1; have HB1 := Lib.hid (below_app' ((Below.refl wr.heap.size wr).alloc (Nat.le_refl _) _) (own_empty wr wr.heap.size _ _ 1 rfl (Nat.le_refl _)) hg1 (Nat.le_refl _) (by simp)); have HO1 := Lib.hid (Sl.of_row hown1); clear hown1 hg1 hat1; have hs1 := HB1.out.size; have hs0 := HB.out.size)
              | ((with_reducible show wpList _ _ _ (⟨some 32, _, _, _, _, _⟩ :: _) _ _); refine wpList_app _ rfl elemLL (.tmp 24) (.tmp 31) rfl rfl ((own_below O1.out HB1.out).alloc _) rfl (Src.new' w1 _ rfl [_] _ 1 1 rfl (by simp [Value.oneCell'])) (dn.length + 1) rfl (by omega) (by simp; omega) ?_; intro A3 c3 w3 hown3 hg3 hat3; have HO3 := Lib.hid hown3; have HG3 := Lib.hid hg3; clear hown3 hg3 hat3))
            have HL3 : Hid (Lst w3 w.heap.size (.slice A3 (dn.length + 1) c3) (dn ++ [[]])) := by
              have hb1 : Below w1.heap.size w1 (w1.alloc (.cells #[.slice A1 0 c1] 22)) := (Below.refl _ _).alloc (Nat.le_refl _) _
              have he := (HO1.out.kept fun q hq => hb1.block q (HO1.out.lt q hq).2).base (B' := w.heap.size) fun q hq => by have := (HO1.out.lt q hq).1; omega
              have he2 : Sl (w1.alloc (.cells #[.slice A1 0 c1] 22)) w.heap.size 5 (.slice A1 0 c1) 0 (bs []) := by simpa using he
              refine Lst.snoc (own_below (own_below O1.out HB1.out) hb1) (fun j q hj => ?_) he2 HG3.out (HO3.out)
              obtain ⟨A', c', e, hsl⟩ := X2.out j q hj
              exact ⟨A', c', e, (hsl.kept fun m hm => HB1.out.block m (hsl.lt m hm).2).kept fun m hm => hb1.block m (Nat.lt_of_lt_of_le (hsl.lt m hm).2 hs1)⟩
            have HB3 : Hid (Below w.heap.size w w3) := by
              have hb1 := HB.out.trans (HB1.out.mono hs0)
              exact below_app' (hb1.alloc hb1.size _) ((own_below O1.out HB1.out).alloc _) HG3.out (Nat.le_refl _) (by have := hb1.size; simp; omega)
            have hl9 : (dn ++ [[]]).length = dn.length + 1 := by simp
            clear O1 X2 HO1 HB1 HO3 HG3
            go_roundw
            case rel => first | exact ⟨fr + 1, fr + 1, A3, c3, dn ++ [[]], by go_num, by go_num, by rw [hl9], Nat.le_refl _, by rw [hl9]; omega, .inr ⟨rfl, HD2.out⟩, by rw [hl9]; exact HL3.out, HB3.out⟩ | exact ⟨0 + 1, 0 + 1, A3, c3, dn ++ [[]], by go_num, by go_num, by rw [hl9], Nat.le_refl _, by rw [hl9]; omega, .inr ⟨rfl, HD2.out⟩, by rw [hl9]; exact HL3.out, HB3.out⟩ | exact ⟨c + 1, c + 1, A3, c3, dn ++ [[]], by go_num, by go_num, by rw [hl9], Nat.le_refl _, by rw [hl9]; omega, .inr ⟨rfl, HD2.out⟩, by rw [hl9]; exact HL3.out, HB3.out⟩
            case measure => simp [intOf] <;> omega
        · skip
          obtain ⟨b, off, rfl, hbl, _⟩ := HRr.out.at_ (by omega)
          have hs : Rd wr (some ⟨b, off + fr, none⟩) (k - fr) (c - fr) ((l.drop fr).take (k - fr)) := by
            have hcap := HRr.out.cap
            have h9 := (HRr.out.drop (k := fr) (by omega)).take (k := k - fr) (by omega)
            simpa [show ¬ c = fr by omega, add_none] using h9
          have HD2 : Hid (D = dn ++ [(l.drop fr).take (k - fr)]) := by
            show D = _
            rw [hD1, hdl, ahead_end]
          have hcf : ¬ c = fr := by have := HRr.out.cap; omega
          have hkc : k ≤ c := by have := HRr.out.cap; omega
          have kb2 : (k : Int) ≤ 1048576 := by omega
          have kb3 : (fr : Int) ≤ (k : Int) := by omega
          have kb4 : (0 : Int) ≤ (fr : Int) := by omega
          clear hD1 hq hdl
          obtain ⟨u, hu⟩ : ∃ u, u = (l.drop fr).take (k - fr) := ⟨_, rfl⟩
          rw [← hu] at hs HD2
          have hul : u.length = k - fr := hs.len
          obtain ⟨xs, hx1, hx2⟩ := ho.out
          have O1 := Lib.hid hx1
          have X2 := Lib.hid hx2
          have HS := Lib.hid hs
          have HUL := Lib.hid hul
          clear hs hx1 hx2 hu hul
          go_wp2_with (first
            | ((with_reducible show wpList _ _ _ (⟨some 30, _, _, _, _, _⟩ :: _) _ _); refine wpList_app _ rfl elemB (.tmp 25) (.tmp 29) rfl rfl (own_empty wr wr.heap.size _ _ 1 rfl (Nat.le_refl _)) rfl ((HS.out.stays (Stays.alloc wr _)).src) (k - fr) (by omega) (by omega) (by simp) ?_; intro A1 c1 w1 hown1 hg1 hat1; have HB1 := Lib.hid (below_app' ((Below.refl wr.heap.size wr).alloc (Nat.le_refl _) _) (own_empty wr wr.heap.size _ _ 1 rfl (Nat.le_refl _)) hg1 (Nat.le_refl _) (by simp)); have HO1 := Lib.hid (Sl.of_row hown1); clear hown1 hg1 hat1; have hs1 := HB1.out.size; have hs0 := HB.out.size)
            | ((with_reducible show wpList _ _ _ (⟨some 32, _, _, _, _, _⟩ :: _) _ _); refine wpList_app _ rfl elemLL (.tmp 24) (.tmp 31) rfl rfl ((own_below O1.out HB1.out).alloc _) rfl (Src.new' w1 _ rfl [_] _ 1 1 rfl (by simp [Value.oneCell'])) (dn.length + 1) rfl (by omega) (by simp; omega) ?_; intro A3 c3 w3 hown3 hg3 hat3; have HO3 := Lib.hid hown3; have HG3 := Lib.hid hg3; clear hown3 hg3 hat3))
          have HL3 : Hid (Lst w3 w.heap.size (.slice A3 (dn.length + 1) c3) (dn ++ [u])) := by
            have hb1 : Below w1.heap.size w1 (w1.alloc (.cells #[.slice A1 (k - fr) c1] 22)) := (Below.refl _ _).alloc (Nat.le_refl _) _
            have he := (HO1.out.kept fun q hq => hb1.block q (HO1.out.lt q hq).2).base (B' := w.heap.size) fun q hq => by have := (HO1.out.lt q hq).1; omega
            have he2 : Sl (w1.alloc (.cells #[.slice A1 (k - fr) c1] 22)) w.heap.size 5 (.slice A1 u.length c1) u.length (bs u) := by rw [HUL.out]; simpa using he
            refine Lst.snoc (own_below (own_below O1.out HB1.out) hb1) (fun j q hj => ?_) he2 HG3.out (by rw [HUL.out]; exact HO3.out)
            obtain ⟨A', c', e, hsl⟩ := X2.out j q hj
            exact ⟨A', c', e, (hsl.kept fun m hm => HB1.out.block m (hsl.lt m hm).2).kept fun m hm => hb1.block m (Nat.lt_of_lt_of_le (hsl.lt m hm).2 hs1)⟩
          have HB3 : Hid (Below w.heap.size w w3) := by
            have hb1 := HB.out.trans (HB1.out.mono hs0)
            exact below_app' (hb1.alloc hb1.size _) ((own_below O1.out HB1.out).alloc _) HG3.out (Nat.le_refl _) (by have := hb1.size; simp; omega)
          have hl9 : (dn ++ [u]).length = dn.length + 1 := by simp
          clear O1 X2 HS HO1 HB1 HO3 HG3
          go_roundw
          case rel => exact ⟨k + 1, k + 1, A3, c3, dn ++ [u], by go_num, by go_num, by rw [hl9], Nat.le_refl _, by rw [hl9]; omega, .inr ⟨rfl, HD2.out⟩, by rw [hl9]; exact HL3.out, HB3.out⟩
          case measure => simp [intOf] <;> omega
    · have hD1 : k = n + 1 ∧ D = dn := by
        rcases hq.out with ⟨h, _⟩ | h
        · omega
        · exact h
      obtain ⟨rfl, rfl⟩ := hD1
      have kb1 : (n : Int) < (n : Int) + 1 := by omega
      clear hq
      go_wp2
      go_ret
      exact ⟨Ao, _, co, rfl, rfl, ho.out, hb.out⟩
end Go.Proofs.Ytiffbmnenbnglaa
