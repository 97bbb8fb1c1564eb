/-
  THE WALKS OF THE DOCUMENT'S LINE.
-/
import Derived.Test.YtgiboekjjnmnnaaWayMath
import Derived.Test.YtgiboekjjnmnnaaLineLaws
import Derived.BigRegion
import Derived.Deep.RegionLaw
import Derived.Handy
namespace Go.Proofs.Ytgiboekjjnmnnaa
open Go.RowKit

theorem elemW : ElemOf Try.prog 36 61 (.agg #[.int .u8 0, .int .i64 0]) 2 16 := ⟨Try.underlying36, by kernel_rfl, rfl, by decide, by decide⟩

/-- the parameter's box -/
abbrev lbox (dl : Int) (v : Value) : Obj := .cells #[.int .i64 dl, v] 38
/-- the result's cell -/
abbrev lres : Obj := .cells #[.int .i64 0, .slice none 0 0] 38

theorem row_base {w : World} {B B' : Nat} {e : TypeId} {size : Nat} {v : Value} {n : Nat} {xs : List Value} (h : w.ownsRow B e size v n xs) (hB : B' ≤ B) : w.ownsRow B' e size v n xs := by
  refine ⟨h.1, ?_⟩
  rcases h.2 with h2 | ⟨g, cap, cur, hv, hb, r⟩
  · exact .inl h2
  · exact .inr ⟨g, cap, cur, hv, Nat.le_trans hB hb, r⟩

set_option maxHeartbeats 2000000 in
theorem rbytes_any (w : World) (dl : Int) (A : Option Addr) (n c : Nat) (ws : List (UInt8 × Int)) (h : RdC w A n c 2 (wcs ws)) (hl : ws.length = n) (hn : n ≤ 70368744177000) :
    Calls Try.prog 16 #[.agg #[.int .i64 dl, .slice A n c]] w fun e w' => ∃ A' c', e = .returned (.slice A' n c') ∧ OwnB w' w.heap.size 5 (.slice A' n c') (ws.map Prod.fst) ∧ Below w.heap.size w w' := by
  have HL := Lib.hid hl
  have HR := Lib.hid h
  clear h hl
  go_enter Try.func16, Try.ntmps16
  go_wp2_with fail
  go_loopw [3, 4] (fun u i wr => ∃ k : Nat, k ≤ n ∧ i = .int .i64 k ∧ wr.ownsRow (w.heap.size + 1) 5 1 u k (bs ((ws.map Prod.fst).take k)) ∧ Below (w.heap.size + 1) (w.alloc (lbox dl (.slice A n c))) wr) (fun _ i _ => n - (intOf i).toNat)
  case atStart => exact ⟨0, Nat.zero_le _, rfl, own_empty _ (w.heap.size + 1) _ _ 1 (by simp) (by simp), (Below.refl _ _).alloc (by simp) _⟩
  case round =>
    obtain ⟨k, hk, rfl, ho, hb⟩ := hrel
    have hc1 : wr.cell? ⟨w.heap.size, 1, none⟩ = some (.slice A n c) := (hb.cell (p := ⟨w.heap.size, 1, none⟩) (by simp)).trans (by rw [World.cell?_alloc_mark]; rfl)
    have hsz : w.heap.size + 1 ≤ wr.heap.size := by have := hb.size; simpa using this
    by_cases hlt : k < n
    · have hx : ws[k]? = some (ws[k]'(by rw [HL.out]; exact hlt)) := List.getElem?_eq_getElem _
      obtain ⟨x, hx'⟩ : ∃ x, x = ws[k]'(by rw [HL.out]; exact hlt) := ⟨_, rfl⟩
      rw [← hx'] at hx
      obtain ⟨b, off, rfl, hblt, hcell⟩ := HR.out.at' hlt
      have hc2 : wr.cell? ⟨b, off + k * 2, none⟩ = some (bv x.1) := (hb.cell (p := ⟨b, off + k * 2, none⟩) (by simp; omega)).trans ((World.cell?_alloc_lt _ _ (a := ⟨b, off + k * 2, none⟩) hblt).trans (hcell 0 _ (wcs_get ws k x hx).1))
      have HX := Lib.hid (show bs ((ws.map Prod.fst).take (k + 1)) = bs ((ws.map Prod.fst).take k) ++ [bv x.1] by rw [List.take_add_one, List.getElem?_map, hx, bs_append]; rfl)
      unfold bv at hc2
      clear hx hx' hcell
      go_wp2_with ((with_reducible show wpList _ _ _ (⟨some 21, _, _, _, _, _⟩ :: _) _ _); refine wpList_app _ rfl elemB (.tmp 13) (.tmp 20) rfl rfl (World.ownsRow.alloc ho _) rfl (Src.new' wr _ rfl [_] _ 1 1 rfl (by simp [Value.oneCell'])) (k + 1) rfl (by omega) (by simp; omega) ?_; intro A1 c1 w2 hown2 hg2 hat2)
      go_roundw
      case rel => exact ⟨k + 1, by omega, by go_num, by rw [HX.out]; exact hown2, below_app' (hb.alloc hsz _) (World.ownsRow.alloc ho _) hg2 (Nat.le_refl _) (by simp; omega)⟩
      case measure => simp [intOf]; omega
    · obtain rfl : n = k := by omega
      have e : (ws.map Prod.fst).take n = ws.map Prod.fst := List.take_of_length_le (by rw [List.length_map, HL.out]; exact Nat.le_refl _)
      rw [e] at ho
      obtain ⟨A2, c2, rfl⟩ := row_form ho
      have HO := Lib.hid ho
      clear ho e
      go_wp2
      go_ret
      refine ⟨_, _, rfl, by unfold OwnB; rw [List.length_map, HL.out]; exact row_base HO.out (by omega), ((Below.refl _ _).alloc (Nat.le_refl _) _).trans (hb.mono (by omega))⟩

set_option maxHeartbeats 2000000 in
theorem rput_full (w : World) (dl : Int) (A : Option Addr) (n c : Nat) (A' : Option Addr) (m c' : Nat) (hn : n ≤ 65536) (hm : m ≤ 281474976710656) (hf : 65536 < n + m) :
    Calls Try.prog 20 #[.agg #[.int .i64 dl, .slice A n c], .slice A' m c'] w fun e w' => e = .returned (.tuple #[.agg #[.int .i64 dl, .slice A n c], .int .i64 6]) ∧ Below w.heap.size w w' := by
  have t1 : decide ((65536 : Int) < (n : Int) + (m : Int)) = true := by simp; omega
  go_enter Try.func20, Try.ntmps20
  go_wp2
  go_returns
  exact ⟨rfl, ((Below.refl w.heap.size w).alloc (Nat.le_refl _) _).alloc (by simp) _⟩

set_option maxHeartbeats 2000000 in
theorem rput_any (w : World) (dl : Int) (A : Option Addr) (n c : Nat) (ws : List (UInt8 × Int)) (h : RdC w A n c 2 (wcs ws)) (hl : ws.length = n) (A' : Option Addr) (m c' : Nat) (l : List UInt8) (hR : Rd w A' m c' l) (hf : n + m ≤ 65536) :
    Calls Try.prog 20 #[.agg #[.int .i64 dl, .slice A n c], .slice A' m c'] w fun e w' => ∃ A2 c2, e = .returned (.tuple #[.agg #[.int .i64 dl, .slice A2 (n + m) c2], .int .i64 0]) ∧ w'.ownsRow w.heap.size 61 2 (.slice A2 (n + m) c2) (n + m) (wcs (ws ++ l.map (·, dl))) ∧ Below w.heap.size w w' := by
  have t1 : decide ((65536 : Int) < (n : Int) + (m : Int)) = false := by simp; omega
  have HL := Lib.hid hl
  have HR := Lib.hid h
  have HP := Lib.hid hR
  have hml := Lib.hid hR.len
  have hS := ((h.stays (.alloc w (lbox dl (.slice A n c)))).stays (.alloc _ lres)).stays (.alloc _ (.cells #[] 61)) |>.src (wcs_one ws)
  have HS := Lib.hid hS
  clear h hl hR hS
  go_enter Try.func20, Try.ntmps20
  go_wp2_with ((with_reducible show wpList _ _ _ (⟨some 19, _, _, _, _, _⟩ :: _) _ _); refine wpList_app _ rfl elemW (.tmp 16) (.tmp 18) rfl rfl (own_empty _ (w.heap.size + 2) _ _ 2 (by simp) (by simp)) rfl HS.out n (by omega) (by omega) (by simp) ?_; intro A1 c1 w1 hown1 hg1 hat1)
  have hb1 := Lib.hid (show Below (w.heap.size + 2) ((w.alloc (lbox dl (.slice A n c))).alloc lres) w1 from ((Below.refl _ _).alloc (by simp) _).grown hg1 (by simp) (by intro k hk; simp [Value.ownBlock, Act.eval] at hk; omega))
  have HO1 := Lib.hid hown1
  clear hown1 hg1 hat1
  go_loopw [6, 7] (fun u i wr => ∃ k : Nat, k ≤ m ∧ i = .int .i64 k ∧ wr.ownsRow (w.heap.size + 2) 61 2 u (n + k) (wcs (ws ++ (l.take k).map (·, dl))) ∧ Below (w.heap.size + 2) ((w.alloc (lbox dl (.slice A n c))).alloc lres) wr) (fun _ i _ => m - (intOf i).toNat)
  case atStart => exact ⟨0, Nat.zero_le _, rfl, by simpa using HO1.out, hb1.out⟩
  case round =>
    obtain ⟨k, hk, rfl, ho, hb⟩ := hrel
    have hsz : w.heap.size + 2 ≤ wr.heap.size := by have := hb.size; simpa using this
    have c0 : wr.cell? ⟨w.heap.size, 0, none⟩ = some (.int .i64 dl) := (hb.cell (p := ⟨w.heap.size, 0, none⟩) (by simp)).trans ((World.cell?_alloc_lt _ _ (a := ⟨w.heap.size, 0, none⟩) (by simp)).trans (by rw [World.cell?_alloc_mark]; rfl))
    by_cases hlt : k < m
    · obtain ⟨b, off, x, rfl, hblt, hx, hcell⟩ := HP.out.at' hlt
      have hc := (hb.cell (p := ⟨b, off + k, none⟩) (by simp; omega)).trans ((World.cell?_alloc_lt _ _ (a := ⟨b, off + k, none⟩) (by simp; omega)).trans ((World.cell?_alloc_lt _ _ (a := ⟨b, off + k, none⟩) hblt).trans hcell))
      have HX := Lib.hid (show wcs (ws ++ (l.take (k + 1)).map (·, dl)) = wcs (ws ++ (l.take k).map (·, dl)) ++ [bv x, .int .i64 dl] by rw [List.take_add_one, hx, List.map_append, ← List.append_assoc, wcs_append]; rfl)
      have s1 := Lib.hid (show (wr.alloc (.cells #[bv x, .int .i64 dl] 61)).drew.ownsRow (w.heap.size + 2) 61 2 u6 (n + k) (wcs (ws ++ (l.take k).map (·, dl))) from ho.alloc _)
      have s2 := Lib.hid (show Src (wr.alloc (.cells #[bv x, .int .i64 dl] 61)).drew (some ⟨wr.heap.size, 0, none⟩) 1 2 [bv x, .int .i64 dl] from (Src.new' wr _ rfl [bv x, .int .i64 dl] 61 1 2 rfl (by simp [Value.oneCell'])).stays fun _ _ _ _ => rfl)
      have s3 := Lib.hid (show w.heap.size + 2 ≤ (wr.alloc (.cells #[bv x, .int .i64 dl] 61)).drew.heap.size by rw [heap_drew]; simp; omega)
      have s3' := Lib.hid hsz
      have HB := Lib.hid hb
      unfold bv at hc
      clear ho hb hcell hx
      go_wp2_with fail
      go_region_law (((apply step_app (hE := elemW) (s := .tmp 26) (x := .tmp 34) (v := u6) (hown := s1.out) (hs := s2.out) (N := n + k + 1) (hbase := s3.out)) <;> first | rfl | omega | skip); intro A2 d2 w4 hown4 hg4 hat4)
      all_goals
        have hb4 := below_app' ((HB.out.alloc s3'.out (.cells #[bv x, .int .i64 dl] 61)).drew) s1.out hg4 (Nat.le_refl _) s3.out
        have HO4 := Lib.hid (show w4.ownsRow (w.heap.size + 2) 61 2 (.slice A2 (n + k + 1) d2) (n + (k + 1)) (wcs (ws ++ (l.take (k + 1)).map (·, dl))) by rw [HX.out]; exact hown4)
        have HB4 := Lib.hid hb4
        clear hown4 hg4 hat4 hb4 s1 s2 s3 c0 hc HX HB
        go_wp2
        refine ⟨⟨k + 1, by omega, by go_num, HO4.out, HB4.out⟩, ?_⟩
        simp [intOf]
        omega
    · obtain rfl : m = k := by omega
      have e : l.take m = l := List.take_of_length_le (by rw [hml.out]; exact Nat.le_refl _)
      rw [e] at ho
      obtain ⟨A2, c2, rfl⟩ := row_form ho
      have HO := Lib.hid ho
      have HBB := Lib.hid hb
      have hrb : wr.heap[w.heap.size + 1]? = some (.cells #[.int .i64 0, .slice none 0 0] 38 (0, 0)) := (hb.block (w.heap.size + 1) (by omega)).trans (by rw [show w.heap.size + 1 = (w.alloc (lbox dl (.slice A n c))).heap.size by simp]; exact heap_alloc_new _ _)
      have r0 : wr.cell? ⟨w.heap.size + 1, 0, none⟩ = some (.int .i64 0) := by rw [cell_of_cells hrb]; rfl
      have r1 : wr.cell? ⟨w.heap.size + 1, 1, none⟩ = some (.slice none 0 0) := by rw [cell_of_cells hrb]; rfl
      have f0 : wr.frozen? ⟨w.heap.size + 1, 0, none⟩ = false := frozen_of_row wr _ 0 _ _ hrb
      have f1 : wr.frozen? ⟨w.heap.size + 1, 1, none⟩ = false := frozen_of_row wr _ 1 _ _ hrb
      have HRB := Lib.hid hrb
      clear ho hb e hrb
      go_wp2
      refine bodyPost_ret (results_cell2 rfl _ _ (w.heap.size + 1) _ _ _ _ rfl (heap_setCell_same _ _ 1 _ _ _ (heap_setCell_same _ _ 0 _ _ _ HRB.out)) Try.underlying38 rfl (by kernel_rfl)) rfl ?_
      refine ⟨A2, c2, rfl, row_base (ownsRow_setCell_below (ownsRow_setCell_below HO.out (by simp) _) (by simp) _) (by omega), ?_⟩
      exact ((((((Below.refl w.heap.size w).alloc (Nat.le_refl _) _).alloc (by simp) _).trans (HBB.out.mono (by omega))).setCell (p := ⟨w.heap.size + 1, 0, none⟩) (by simp) _).setCell (p := ⟨w.heap.size + 1, 1, none⟩) (by simp) _)

set_option maxHeartbeats 2000000 in
theorem rtick_any (w : World) (dl : Int) (A : Option Addr) (n c : Nat) (ws : List (UInt8 × Int)) (h : RdC w A n c 2 (wcs ws)) (hl : ws.length = n) (hn : n ≤ 65536) (hz : ∀ x ∈ ws, 0 ≤ x.2 ∧ x.2 ≤ 1000) :
    Calls Try.prog 21 #[.agg #[.int .i64 dl, .slice A n c]] w fun e w' => ∃ A2 c2, e = .returned (.agg #[.int .i64 dl, .slice A2 n c2]) ∧ w'.ownsRow w.heap.size 61 2 (.slice A2 n c2) n (wcs (ws.map fun x => (x.1, max 0 (x.2 - 1)))) ∧ Below w.heap.size w w' := by
  have HL := Lib.hid hl
  have HR := Lib.hid h
  have HZ := Lib.hid hz
  clear h hl hz
  go_enter Try.func21, Try.ntmps21
  go_wp2_with fail
  go_loopw [3, 4] (fun u i wr => ∃ k : Nat, k ≤ n ∧ i = .int .i64 k ∧ wr.ownsRow (w.heap.size + 2) 61 2 u k (wcs ((ws.take k).map fun x => (x.1, max 0 (x.2 - 1)))) ∧ Below (w.heap.size + 2) ((w.alloc (lbox dl (.slice A n c))).alloc lres) wr) (fun _ i _ => n - (intOf i).toNat)
  case atStart => exact ⟨0, Nat.zero_le _, rfl, own_empty _ (w.heap.size + 2) _ _ 2 (by simp) (by simp), (Below.refl _ _).alloc (by simp) _⟩
  case round =>
    obtain ⟨k, hk, rfl, ho, hb⟩ := hrel
    have hsz : w.heap.size + 2 ≤ wr.heap.size := by have := hb.size; simpa using this
    have c0 : wr.cell? ⟨w.heap.size, 0, none⟩ = some (.int .i64 dl) := (hb.cell (p := ⟨w.heap.size, 0, none⟩) (by simp)).trans ((World.cell?_alloc_lt _ _ (a := ⟨w.heap.size, 0, none⟩) (by simp)).trans (by rw [World.cell?_alloc_mark]; rfl))
    have c1 : wr.cell? ⟨w.heap.size, 1, none⟩ = some (.slice A n c) := (hb.cell (p := ⟨w.heap.size, 1, none⟩) (by simp)).trans ((World.cell?_alloc_lt _ _ (a := ⟨w.heap.size, 1, none⟩) (by simp)).trans (by rw [World.cell?_alloc_mark]; rfl))
    by_cases hlt : k < n
    · have hx : ws[k]? = some (ws[k]'(by rw [HL.out]; exact hlt)) := List.getElem?_eq_getElem _
      obtain ⟨x, hx'⟩ : ∃ x, x = ws[k]'(by rw [HL.out]; exact hlt) := ⟨_, rfl⟩
      rw [← hx'] at hx
      have hz := HZ.out x (List.mem_of_getElem? hx)
      obtain ⟨b, off, rfl, hblt, hcell⟩ := HR.out.at' hlt
      have up : ∀ j, wr.cell? ⟨b, off + k * 2 + j, none⟩ = w.cell? ⟨b, off + k * 2 + j, none⟩ := fun j => (hb.cell (p := ⟨b, off + k * 2 + j, none⟩) (by simp; omega)).trans ((World.cell?_alloc_lt _ _ (a := ⟨b, off + k * 2 + j, none⟩) (by simp; omega)).trans (World.cell?_alloc_lt _ _ (a := ⟨b, off + k * 2 + j, none⟩) hblt))
      have d0 : wr.cell? ⟨b, off + k * 2, none⟩ = some (bv x.1) := (up 0).trans (hcell 0 _ (wcs_get ws k x hx).1)
      have d1 : wr.cell? ⟨b, off + k * 2 + 1, none⟩ = some (.int .i64 x.2) := (up 1).trans (hcell 1 _ (wcs_get ws k x hx).2)
      obtain ⟨y, hy⟩ : ∃ y, y = max 0 (x.2 - 1) := ⟨_, rfl⟩
      have HX := Lib.hid (show wcs ((ws.take (k + 1)).map fun x => (x.1, max 0 (x.2 - 1))) = wcs ((ws.take k).map fun x => (x.1, max 0 (x.2 - 1))) ++ [bv x.1, .int .i64 y] by rw [List.take_add_one, hx, List.map_append, wcs_append, hy]; rfl)
      have s1 := Lib.hid (show (wr.alloc (.cells #[bv x.1, .int .i64 y] 61)).drew.ownsRow (w.heap.size + 2) 61 2 u3 k (wcs ((ws.take k).map fun x => (x.1, max 0 (x.2 - 1)))) from ho.alloc _)
      have s2 := Lib.hid (show Src (wr.alloc (.cells #[bv x.1, .int .i64 y] 61)).drew (some ⟨wr.heap.size, 0, none⟩) 1 2 [bv x.1, .int .i64 y] from (Src.new' wr _ rfl [bv x.1, .int .i64 y] 61 1 2 rfl (by simp [Value.oneCell'])).stays fun _ _ _ _ => rfl)
      have s3 := Lib.hid (show w.heap.size + 2 ≤ (wr.alloc (.cells #[bv x.1, .int .i64 y] 61)).drew.heap.size by rw [heap_drew]; simp; omega)
      have s3' := Lib.hid hsz
      have HB := Lib.hid hb
      obtain ⟨x1, x2⟩ := x
      simp only at d0 d1 hz hy s1 s2 s3 HX
      have hw : IntKind.i64.wrap (x2 - 1) = x2 - 1 := IntWalk.i64_in _ ⟨by omega, by omega⟩
      unfold bv at d0
      clear ho hb hcell hx hx' up
      have hy2 : (if 1 < x2 then x2 - 1 else 0) = y := by split <;> omega
      clear hy
      go_wp2_with fail
      go_region_law (((apply step_app (hE := elemW) (s := .tmp 13) (x := .tmp 29) (v := u3) (hown := s1.out) (hs := s2.out) (N := k + 1) (hbase := s3.out)) <;> first | rfl | omega | skip); intro A2 d2 w4 hown4 hg4 hat4)
      all_goals
        have hb4 := below_app' ((HB.out.alloc s3'.out (.cells #[bv x1, .int .i64 y] 61)).drew) s1.out hg4 (Nat.le_refl _) s3.out
        rw [← HX.out] at hown4
        have HO4 := Lib.hid hown4
        have HB4 := Lib.hid hb4
        clear hown4 hg4 hat4 hb4 s1 s2 s3 c0 c1 d0 d1 HX HB hy2
        go_wp2
        refine ⟨⟨k + 1, by omega, by go_num, HO4.out, HB4.out⟩, ?_⟩
        simp [intOf]
        omega
    · obtain rfl : n = k := by omega
      have e : ws.take n = ws := List.take_of_length_le (by rw [HL.out]; exact Nat.le_refl _)
      rw [e] at ho
      obtain ⟨A2, c2, rfl⟩ := row_form ho
      have HO := Lib.hid ho
      have HBB := Lib.hid hb
      have hrb : wr.heap[w.heap.size + 1]? = some (.cells #[.int .i64 0, .slice none 0 0] 38 (0, 0)) := (hb.block (w.heap.size + 1) (by omega)).trans (by rw [show w.heap.size + 1 = (w.alloc (lbox dl (.slice A n c))).heap.size by simp]; exact heap_alloc_new _ _)
      have r0 : wr.cell? ⟨w.heap.size + 1, 0, none⟩ = some (.int .i64 0) := by rw [cell_of_cells hrb]; rfl
      have r1 : wr.cell? ⟨w.heap.size + 1, 1, none⟩ = some (.slice none 0 0) := by rw [cell_of_cells hrb]; rfl
      have f0 : wr.frozen? ⟨w.heap.size + 1, 0, none⟩ = false := frozen_of_row wr _ 0 _ _ hrb
      have f1 : wr.frozen? ⟨w.heap.size + 1, 1, none⟩ = false := frozen_of_row wr _ 1 _ _ hrb
      have HRB := Lib.hid hrb
      clear ho hb e hrb
      go_wp2
      refine bodyPost_ret (results_cell_row rfl _ _ (w.heap.size + 1) _ _ _ _ rfl (heap_setCell_same _ _ 1 _ _ _ (heap_setCell_same _ _ 0 _ _ _ HRB.out)) Try.underlying38 rfl (by kernel_rfl)) rfl ?_
      refine ⟨A2, c2, rfl, row_base (ownsRow_setCell_below (ownsRow_setCell_below HO.out (by simp) _) (by simp) _) (by omega), ?_⟩
      exact ((((((Below.refl w.heap.size w).alloc (Nat.le_refl _) _).alloc (by simp) _).trans (HBB.out.mono (by omega))).setCell (p := ⟨w.heap.size + 1, 0, none⟩) (by simp) _).setCell (p := ⟨w.heap.size + 1, 1, none⟩) (by simp) _)

end Go.Proofs.Ytgiboekjjnmnnaa
