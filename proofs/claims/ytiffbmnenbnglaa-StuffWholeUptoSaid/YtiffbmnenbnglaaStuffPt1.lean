/-
  THE ITERATOR OVER PARTS THAT WERE COLLECTED; what Parts hands back.
-/
import Derived.Test.YtiffbmnenbnglaaStuffBtw
import Derived.Test.YtiffbmnenbnglaaKept
namespace Go.Proofs.Ytiffbmnenbnglaa
open Go.RowKit

theorem Lst.keep {w w' : World} {B : Nat} {v : Value} {ls : List (List UInt8)} (h : Lst w B v ls) (hk : ∀ k, B ≤ k → k < w.heap.size → w'.heap[k]? = w.heap[k]?) : Lst w' B v ls := by
  obtain ⟨xs, h1, h2⟩ := h
  refine ⟨xs, row_keep h1 fun k e => hk k (h1.lt k e).1 (h1.lt k e).2, fun j l hj => ?_⟩
  obtain ⟨A, c, e, hs⟩ := h2 j l hj
  exact ⟨A, c, e, hs.kept fun k hk' => hk k (hs.lt k hk').1 (hs.lt k hk').2⟩
/-- one of them -/
theorem Lst.at_ {w : World} {B : Nat} {A : Option Addr} {n c : Nat} {ls : List (List UInt8)} (h : Lst w B (.slice A n c) ls) (hn : ls.length = n) {k : Nat} (hk : k < n) :
    ∃ g q A' c', A = some ⟨g, 0, none⟩ ∧ ls[k]? = some q ∧ w.cell? ⟨g, k, none⟩ = some (.slice A' q.length c') ∧ Sl w B 5 (.slice A' q.length c') q.length (bs q) := by
  subst hn
  obtain ⟨xs, h1, h2⟩ := h
  obtain ⟨g, cap, hv, hb, hlt⟩ := h1.form (by omega)
  injection hv with hv _ _
  subst hv
  obtain ⟨A', c', e, hs⟩ := h2 k ls[k] (List.getElem?_eq_getElem hk)
  refine ⟨g, ls[k], A', c', rfl, List.getElem?_eq_getElem hk, ?_, hs⟩
  have := h1.cells (g := g) rfl k _ e
  rwa [add_none, Nat.zero_add] at this

set_option maxRecDepth 100000 in
set_option maxHeartbeats 1000000 in
theorem parts1 (n1 n2 po : Nat) (A : Option Addr) (n c : Nat) (ls : List (List UInt8)) (w : World) (hb0 : Bx w po 35 (.slice A n c)) (hp1 : n1 ≤ po) (hL0 : Lst w n1 (.slice A n c) ls) (hn : ls.length = n) (hn2 : w.heap.size = n2) (hnb : n ≤ 16777217) (hlb : ∀ l ∈ ls, l.length ≤ 16777216) :
    SeqOf Try.prog 20 #[.pointer (some ⟨po, 0, none⟩)] (fun _ => True) (fun k => n1 ≤ k ∧ k < n2) ls w := by
  intro m ly J Jx W hW hJ hY h0
  have hb1 := hb0.same hW ⟨hp1, by have := hb0.lt; omega⟩
  have hz1 := hW.size
  have HJ := Lib.hid hJ
  have HY := Lib.hid hY
  have H0 := Lib.hid h0
  have HW := Lib.hid hW
  have HL := Lib.hid hL0
  have HN := Lib.hid hn
  have HN2 := Lib.hid hn2
  have HLB := Lib.hid hlb
  have bc := hb1.cell
  rw [hn2] at hz1
  clear hJ hY h0 hL0 hb0 hW hlb hn hn2 hb1
  go_enter Try.func20, Try.ntmps20
  go_wp2_with fail
  go_loopw [7] (fun i wr => ∃ k : Nat, i = .int .i64 k ∧ k ≤ n ∧ Hid (Same (fun k => n1 ≤ k ∧ k < n2) W wr ∧ J k wr)) (fun i _ => n - (intOf i).toNat)
  case atStart => exact ⟨0, rfl, Nat.zero_le _, Same.refl _ _, H0.out⟩
  case round =>
    obtain ⟨k, rfl, hk, hs, hj⟩ := hrel
    have HS := Lib.hid hs
    have HJ1 := Lib.hid hj
    clear hs hj
    by_cases hlt : k < n
    · have hsw := HW.out.trans HS.out
      obtain ⟨g, q, A1, c1, hA, hq, hcell, hsl⟩ := (HL.out.keep (w' := wr) fun k h1 h2 => hsw.block k h2 ⟨h1, by have := HN2.out; omega⟩).at_ HN.out hlt
      have hqb : q.length ≤ 16777216 := HLB.out q (List.mem_of_getElem? hq)
      have HR := Lib.hid (hsl.rd (by omega))
      have HQ := Lib.hid hq
      subst hA
      clear hsw hsl hq
      go_upto_region 3 with fail
      refine (wpIn_wide (n := m + 1)).1 (wpIn_region_lit ?_)
      refine list_cut (r := none) 4 rfl ?_
      dsimp only [List.take, List.drop]
      go_wp2_with (first
        | ((with_reducible show wpList _ _ _ (⟨some 14, _, _, _, _, _⟩ :: _) _ _); refine wpList_app _ rfl elemB (.tmp 12) (.tmp 13) rfl rfl (own_empty wr wr.heap.size _ _ 1 rfl (Nat.le_refl _)) rfl ((HR.out.stays (Stays.alloc wr _)).src) q.length (by omega) (by omega) (by simp) ?_; intro A3 c3 w3 hown3 hg3 hat3))
      have hb3 : Below wr.heap.size wr w3 := below_app' ((Below.refl wr.heap.size wr).alloc (Nat.le_refl _) _) (own_empty wr wr.heap.size _ _ 1 rfl (Nat.le_refl _)) hg3 (Nat.le_refl _) (by simp)
      have s3 : Same (fun _ => True) wr w3 := Same.of_below hb3 fun _ h _ => h
      have z3 := HS.out.size
      have hsl : Sl w3 wr.heap.size 5 (.slice A3 q.length c3) q.length (bs q) := by
        have := (Sl.of_row hown3).base (B' := wr.heap.size) fun k hk => by have := ((Sl.of_row hown3).lt k hk).1; omega
        simpa using this
      have hyy := HY.out _ _ _ _ _ _ HJ1.out s3 HS.out.size HQ.out hsl
      have S3 := Lib.hid (HS.out.trans (s3.mono fun _ _ _ => trivial))
      clear hb3 s3 hown3 hg3 hat3 hsl
      refine list_yield (x := .tmp 14) (y := .tmp 11) (t := 22) rfl rfl rfl hyy ?_
      clear hyy
      rintro e w4 (⟨rfl, hj4, hs4⟩ | ⟨rfl, hj4⟩)
      · refine ⟨true, rfl, ?_⟩
        have S4 := Lib.hid (S3.out.trans hs4)
        have HJ4 := Lib.hid hj4
        clear hs4 hj4
        refine list_cut (r := none) 1 rfl ?_
        dsimp only [List.take, List.drop]
        go_wp2_with fail
        rw [wpListIn]
        dsimp only [Exit.then]
        go_wp2_with fail
        go_roundw
        case rel => exact ⟨k + 1, by go_num, hlt, S4.out, HJ4.out⟩
        case measure => simp [intOf]; omega
      · refine ⟨false, rfl, ?_⟩
        have hkl : k + 1 ≤ ls.length := by rw [HN.out]; exact hlt
        refine list_cut (r := none) 1 rfl ?_
        dsimp only [List.take, List.drop]
        go_wp2_with fail
        rw [wpListIn]
        dsimp only [Exit.then]
        go_wp2_with fail
        refine bodyPost_ret (results_none rfl _ _ _) rfl ?_
        exact ⟨⟨_, rfl⟩, .inr ⟨_, hkl, hj4⟩⟩
    · obtain rfl : k = n := by omega
      go_wp2_with fail
      go_end0
      refine ⟨⟨_, rfl⟩, .inl ?_⟩
      rw [HN.out]
      exact HJ1.out
end Go.Proofs.Ytiffbmnenbnglaa
