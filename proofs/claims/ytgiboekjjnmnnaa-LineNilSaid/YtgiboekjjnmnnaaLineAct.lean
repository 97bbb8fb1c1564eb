/-
  A CALL OF A LINE, AS AN ARGUMENT.
-/
import Derived.Test.YtgiboekjjnmnnaaLineNil
import Derived.Test.YtgiboekjjnmnnaaOpen
import Derived.Lib.SmallJoins
namespace Go.Proofs.Ytgiboekjjnmnnaa
open Go.RowKit Go.ChangeShapes Go.WideShapes

theorem open_act {H : Type} {enc : TypeId × Value → H} {w : World} {base : Nat} {r : Reach} {b0 : Nat} {spare : Nat → Bool} {held : Bool} {v : Value} {d : DataW H} {p : List MemPlace}
    (hv : Value.okWide Try.prog w r b0 42 v) (h : DataW.Trod enc Try.prog w base spare held 42 v d p) :
    ∃ (i0 i1 i2 : Int) (A : Option Addr) (n c : Nat), v = .agg #[.int .i64 i0, .int .i64 i1, .int .i64 i2, .slice A n c] := by
  obtain ⟨x0, x1, x2, x3, y0, y1, y2, y3, m, rfl, _, _, z0, z1, z2, z3⟩ := Go.Joins.open_agg4 Try.underlying42 (by kernel_rfl) (by kernel_rfl) hv h
  obtain ⟨i0, e0, _, _⟩ := DataW.trod_int Try.underlying3 z0
  obtain ⟨i1, e1, _, _⟩ := DataW.trod_int Try.underlying3 z1
  obtain ⟨i2, e2, _, _⟩ := DataW.trod_int Try.underlying3 z2
  have e3 : ∃ A n c, x3 = .slice A n c := by
    rcases DataW.trod_slice Try.underlying28 z3 with ⟨e, _⟩ | ⟨a, len, cap, _, _, _, _, e, _⟩
    · exact ⟨none, 0, 0, by simpa using e⟩
    · exact ⟨some a, len, cap, by simpa using e⟩
  obtain ⟨A, n, c, rfl⟩ := e3
  exact ⟨i0, i1, i2, A, n, c, by simp_all⟩
end Go.Proofs.Ytgiboekjjnmnnaa
