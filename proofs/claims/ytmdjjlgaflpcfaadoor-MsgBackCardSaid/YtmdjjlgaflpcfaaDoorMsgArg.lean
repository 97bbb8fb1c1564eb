/-
  IDS AND MESSAGES AS ARGUMENTS; A WORLD FOR THE WITNESS OF A ROW THAT LISTS TABLES.
-/
import Derived.Test.YtmdjjlgaflpcfaaDoorMsgWalk
import Derived.Test.YtmdjjlgaflpcfaaDoorOpen
import Derived.Test.YtmdjjlgaflpcfaaDoorTie
import Derived.Test.YtmdjjlgaflpcfaaDoorCards
import Derived.Lib.SmallJoins
import Derived.Lib.LaidTab
import Derived.LaidMore
import Derived.Deep.DeepHandedRow
namespace Go.Proofs.YtmdjjlgaflpcfaaDoor
open Go.RowKit Go.ChangeShapes Go.WideShapes Mg

/-- an id's numbers are machine numbers -/
def W64 (z : Int) : Prop := -9223372036854775808 ≤ z ∧ z ≤ 9223372036854775807
theorem w64 {z : Int} (h : (Lit.int .i64 z).wf = true) : W64 z := bounds_i64 h
def Wide (i : Mid) : Prop := W64 i.o ∧ W64 i.d ∧ W64 i.e ∧ W64 i.c

theorem list4 {α : Type} {l : List α} (h : l.length = 4) : ∃ a b c d, l = [a, b, c, d] := by
  match l, h with
  | [a, b, c, d], _ => exact ⟨a, b, c, d, rfl⟩
theorem list5 {α : Type} {l : List α} (h : l.length = 5) : ∃ a b c d e, l = [a, b, c, d, e] := by
  match l, h with
  | [a, b, c, d, e], _ => exact ⟨a, b, c, d, e, rfl⟩

section
variable {H : Type} {enc : TypeId × Value → H} {w : World} {base : Nat} {held : Bool} {r : Reach}

theorem open_id_cells {fuel : Nat} {cs : List Value} {x : DataW H × List MemPlace} (h : DataW.trod enc Tryd.prog w base (fun _ => true) held fuel 23 cs = some x) :
    ∃ i : Mid, cs = [.int .i64 i.o, .int .i64 i.d, .int .i64 i.e, .int .i64 i.c] ∧ Wide i := by
  obtain ⟨y0, y1, y2, y3, m, _, hl, z0, z1, z2, z3⟩ := Go.Joins.trod_struct4 Tryd.underlying23 h
  have hl4 : cs.length = 4 := hl.trans (by kernel_rfl)
  obtain ⟨c0, c1, c2, c3, rfl⟩ := list4 hl4
  ·
    have k0 : Tryd.prog.cellsOf 3 = 1 := by kernel_rfl
    simp only [k0, List.drop_zero, List.drop_succ_cons, List.take_succ_cons, List.take_zero] at z0 z1 z2 z3
    obtain ⟨i0, e0, _, f0⟩ := DataW.trod_int Tryd.underlying3 z0
    obtain ⟨i1, e1, _, f1⟩ := DataW.trod_int Tryd.underlying3 z1
    obtain ⟨i2, e2, _, f2⟩ := DataW.trod_int Tryd.underlying3 z2
    obtain ⟨i3, e3, _, f3⟩ := DataW.trod_int Tryd.underlying3 z3
    simp only [List.cons.injEq, and_true] at e0 e1 e2 e3
    subst e0 e1 e2 e3
    exact ⟨⟨i0, i1, i2, i3⟩, rfl, w64 f0, w64 f1, w64 f2, w64 f3⟩

theorem opened_id {v : Value} {d : DataW H} {p : List MemPlace} (hv : Value.okWide Tryd.prog w r base 23 v) (h : DataW.Trod enc Tryd.prog w 0 (fun _ => true) held 23 v d p) : ∃ i : Mid, v = idv i ∧ Wide i := by
  obtain ⟨cs, rfl, hs⟩ := okWide_struct Tryd.underlying23 hv
  obtain ⟨m, hm⟩ := h
  obtain ⟨i, e, hw⟩ := open_id_cells hm
  have e2 : cs = #[.int .i64 i.o, .int .i64 i.d, .int .i64 i.e, .int .i64 i.c] := Array.toList_inj.1 e
  subst e2
  exact ⟨i, rfl, hw⟩

theorem opened_msg {v : Value} {d : DataW H} {p : List MemPlace} (hv : Value.okWide Tryd.prog w r base 32 v) (h : DataW.Trod enc Tryd.prog w 0 (fun _ => true) held 32 v d p) (hf : Fits Tryd.prog 32 d) :
    ∃ (i : Mid) (A : Option Addr) (n c : Nat) (l : List UInt8), v = msgv i (.slice A n c) ∧ Wide i ∧ Rd w A n c l ∧ n ≤ 140737488351232 := by
  obtain ⟨cs, rfl, hs⟩ := okWide_struct Tryd.underlying32 hv
  obtain ⟨m, hm⟩ := h
  obtain ⟨y0, y1, m', hx, hl, z0, z1⟩ := trod_struct2 Tryd.underlying32 hm
  simp only [Prod.mk.injEq] at hx
  obtain ⟨rfl, _⟩ := hx
  obtain ⟨l⟩ := cs
  have hl5 : l.length = 5 := hl.trans (by kernel_rfl)
  have k0 : Tryd.prog.cellsOf 23 = 4 := by kernel_rfl
  have k1 : Tryd.prog.cellsOf 25 = 1 := by kernel_rfl
  obtain ⟨c0, c1, c2, c3, c4, rfl⟩ := list5 hl5
  ·
    simp only [Value.cells, k0, k1, List.drop_zero, List.drop_succ_cons, List.take_succ_cons, List.take_zero] at z0 z1
    obtain ⟨i, e, hw⟩ := open_id_cells z0
    have hf1 : Fits Tryd.prog 25 y1.1 := fun k hk => hf k (by
      simp only [DataW.weights, Tryd.underlying32, List.map_cons, List.map_nil, DataW.weightsEach, List.mem_append]
      exact .inr (.inl hk))
    obtain ⟨A, n, c, l, e4, hr, hn, _⟩ := opened_bytes' Tryd.underlying25 Tryd.underlying5 (by kernel_rfl) (by kernel_rfl) z1 hf1
    simp only [List.cons.injEq, and_true] at e
    obtain ⟨rfl, rfl, rfl, rfl⟩ := e
    subst e4
    exact ⟨i, A, n, c, l, rfl, hw, hr, hn⟩
end

/-- A WORLD FOR THE WITNESS: the heap that the door's own run leaves. -/
theorem door_met5 (os : Os) (args : Array Value) : laidMetH Tryd.prog Rows.msgTextsRow.laid ((World.doorLaid Tryd.prog 4000 os).forCall (fun _ _ => 0) ⟨#[], args, []⟩).memory :=
  laidMetH_of_parts3 (fuel := 8) (laidMet_of_run' 8 (by kernel_rfl) (by kernel_rfl)) (by kernel_rfl) (by kernel_rfl)
theorem door_met3 (os : Os) (args : Array Value) : laidMetH Tryd.prog Rows.msgOrderRow.laid ((World.doorLaid Tryd.prog 4000 os).forCall (fun _ _ => 0) ⟨#[], args, []⟩).memory :=
  laidMet_of_run' 8 (by kernel_rfl) (by kernel_rfl)
end Go.Proofs.YtmdjjlgaflpcfaaDoor
