/-
  CALLS OF A LINE, A SLICE OF THEM, AS AN ARGUMENT.
-/
import Derived.Test.YtgiboekjjnmnnaaPlays
import Derived.Test.YtgiboekjjnmnnaaOpen
import Derived.Lib.SmallJoins
namespace Go.Proofs.Ytgiboekjjnmnnaa
open Go.RowKit Go.ChangeShapes Go.WideShapes

/-- bytes opened, no more than 3000 of them -/
theorem opened_few {H : Type} {enc : TypeId × Value → H} {P : Program} {w : World} {base : Nat} {held : Bool} {t e : TypeId} {fuel : Nat} {A : Option Addr} {n c : Nat} {x : DataW H × List MemPlace} (ht : P.underlying t = some (.slice e)) (he : P.underlying e = some (.int .u8)) (hc : P.cellsOf e = 1)
    (h : DataW.trod enc P w base (fun _ => true) held fuel t [.slice A n c] = some x) (hn : n ≤ 3000) : ∃ l : List UInt8, Rd w A n c l := by
  rcases open_ints ht he hc h with ⟨hcs, hx⟩ | ⟨a, len, cap, zs, hcs, _, hl, hm, hz, hx, hcell, hwz⟩
  · simp only [List.cons.injEq, Value.slice.injEq, and_true] at hcs
    obtain ⟨rfl, rfl, rfl⟩ := hcs
    exact ⟨[], Rd.nil _ _ _⟩
  · simp only [List.cons.injEq, Value.slice.injEq, and_true] at hcs
    obtain ⟨rfl, rfl, rfl⟩ := hcs
    have hz' : zs.length = c := by simpa using hz
    have key : ∀ i, i < zs.length → ∃ x : UInt8, (zs.getD i 0) = (x.toNat : Int) := by
      intro i hi
      have hmem : zs.getD i 0 ∈ zs := by
        have : zs.getD i 0 = zs[i] := by simp [List.getD, hi]
        rw [this]
        exact List.getElem_mem hi
      have hb : 0 ≤ zs.getD i 0 ∧ zs.getD i 0 ≤ 255 := bounds_u8 (hwz _ hmem)
      exact ⟨_, byte_of hb.1 hb.2⟩
    refine ⟨(zs.take n).map fun z => UInt8.ofNat z.toNat, ⟨by simp; omega, hl, by omega, fun hp => ?_⟩⟩
    obtain ⟨b, off, spot⟩ := a
    have hc0 := hcell 0 (by omega)
    have hspot : spot = none := by simpa [Addr.add] using World.cell?_spot hc0
    subst hspot
    rw [show (⟨b, off, none⟩ : Addr).add 0 = ⟨b, off, none⟩ from rfl] at hc0
    refine ⟨b, off, rfl, World.block_lt_of_cell? w _ hc0, fun j x hx => ?_⟩
    have hj : j < n := by
      have := (List.getElem?_eq_some_iff.1 hx).1
      simp at this
      omega
    have hcj := hcell j (by omega)
    rw [add_none] at hcj
    rw [hcj]
    obtain ⟨y, hy⟩ := key j (by omega)
    have hx2 : x = UInt8.ofNat (zs.getD j 0).toNat := by
      simp only [List.getElem?_map, Option.map_eq_some_iff] at hx
      obtain ⟨z, hz1, rfl⟩ := hx
      rw [List.getElem?_take, if_pos hj] at hz1
      rw [List.getD_eq_getElem?_getD, hz1]
      rfl
    have hy2 : x.toNat = y.toNat := by
      rw [hx2, hy]
      simp
    rw [hy, ← hy2]

/-- one call's cells -/
theorem open_act_cells {H : Type} {enc : TypeId × Value → H} {w : World} {base : Nat} {held : Bool} {fuel : Nat} {cs : List Value} {x : DataW H × List MemPlace} (h : DataW.trod enc Try.prog w base (fun _ => true) held fuel 42 cs = some x) :
    ∃ (i0 i1 i2 : Int) (Aa : Option Addr) (na ca : Nat), cs = [.int .i64 i0, .int .i64 i1, .int .i64 i2, .slice Aa na ca] ∧ (na ≤ 3000 → ∃ l, Rd w Aa na ca l) := by
  obtain ⟨y0, y1, y2, y3, m, _, hl, z0, z1, z2, z3⟩ := Go.Joins.trod_struct4 Try.underlying42 h
  have hl4 : cs.length = 4 := hl.trans (by kernel_rfl)
  match cs, hl4 with
  | [c0, c1, c2, c3], _ =>
    have k0 : Try.prog.cellsOf 3 = 1 := by kernel_rfl
    have k3 : Try.prog.cellsOf 28 = 1 := by kernel_rfl
    simp only [k0, k3, List.drop_zero, List.drop_succ_cons, List.take_succ_cons, List.take_zero] at z0 z1 z2 z3
    obtain ⟨i0, e0, _, _⟩ := DataW.trod_int Try.underlying3 z0
    obtain ⟨i1, e1, _, _⟩ := DataW.trod_int Try.underlying3 z1
    obtain ⟨i2, e2, _, _⟩ := DataW.trod_int Try.underlying3 z2
    have e3 : ∃ A n c, c3 = .slice A n c := by
      rcases DataW.trod_slice Try.underlying28 z3 with ⟨e, _⟩ | ⟨a, len, cap, _, _, _, _, e, _⟩
      · exact ⟨none, 0, 0, by simpa using e⟩
      · exact ⟨some a, len, cap, by simpa using e⟩
    obtain ⟨Aa, na, ca, rfl⟩ := e3
    simp only [List.cons.injEq, and_true] at e0 e1 e2
    subst e0 e1 e2
    exact ⟨i0, i1, i2, Aa, na, ca, rfl, fun hn => opened_few Try.underlying28 Try.underlying5 (by kernel_rfl) z3 hn⟩

theorem opened_acts {H : Type} {enc : TypeId × Value → H} {w : World} {base : Nat} {held : Bool} {fuel : Nat} {A : Option Addr} {n c : Nat} {x : DataW H × List MemPlace}
    (h : DataW.trod enc Try.prog w base (fun _ => true) held fuel 35 [.slice A n c] = some x) : RdA w A n ∧ n ≤ 9223372036854775807 := by
  have k4 : Try.prog.cellsOf 42 = 4 := by kernel_rfl
  rcases Go.Deep.open_slice Try.underlying35 h with ⟨hcs, _⟩ | ⟨a, len, cap, m, n1, D, Pl, hcs, _, hl, hm, hz, _, hcell⟩
  · simp only [List.cons.injEq, Value.slice.injEq, and_true] at hcs
    obtain ⟨rfl, rfl, rfl⟩ := hcs
    exact ⟨fun h => absurd h (by omega), by omega⟩
  · simp only [List.cons.injEq, Value.slice.injEq, and_true] at hcs
    obtain ⟨rfl, rfl, rfl⟩ := hcs
    have hz' : m = c := by simpa using hz
    subst hz'
    refine ⟨fun hn => ?_, by unfold maxLen at hm; omega⟩
    rw [k4] at hcell
    have each : ∀ i, i < n → ∃ cs', (∀ j, j < 4 → w.cell? (a.add (i * 4 + j)) = cs'[j]?) ∧ ∃ (i0 i1 i2 : Int) (Aa : Option Addr) (na ca : Nat), cs' = [.int .i64 i0, .int .i64 i1, .int .i64 i2, .slice Aa na ca] ∧ (na ≤ 3000 → ∃ l, Rd w Aa na ca l) := by
      intro i hi
      obtain ⟨cs', h1, h2⟩ := hcell i (by omega)
      have h3 := open_act_cells h2
      refine ⟨cs', fun j hj => ?_, h3⟩
      have h4 := World.cells?_some h1
      have h5 := h4.2.2 j hj
      rw [Go.Deep.add_add] at h5
      exact h5
    obtain ⟨b, off, spot⟩ := a
    obtain ⟨cs0, h1, i0, i1, i2, Aa, na, ca, rfl, _⟩ := each 0 hn
    have hc0 := h1 0 (by omega)
    have hspot : spot = none := by simpa [Addr.add] using World.cell?_spot hc0
    subst hspot
    refine ⟨b, off, rfl, World.block_lt_of_cell? w _ hc0, fun j hj => ?_⟩
    obtain ⟨cs1, h1, i0, i1, i2, Aa, na, ca, rfl, h2⟩ := each j hj
    refine ⟨i0, i1, i2, Aa, na, ca, ?_, ?_, ?_, ?_, h2⟩
    · have := h1 0 (by omega)
      rwa [add_none] at this
    · have := h1 1 (by omega)
      rwa [add_none, ← Nat.add_assoc] at this
    · have := h1 2 (by omega)
      rwa [add_none, ← Nat.add_assoc] at this
    · have := h1 3 (by omega)
      rwa [add_none, ← Nat.add_assoc] at this

/-- LinePlays -/
theorem plays_law (w : World) (dl : Int) (A : Option Addr) (n c : Nat) (hA : RdA w A n) (hn : n ≤ 9223372036854775807) :
    Calls Try.prog 4 #[.int .i64 dl, .slice A n c] w fun e w' => e = .returned (.bool true) ∧ Below w.heap.size w w' := by
  by_cases h : dl < 0 ∨ 64 < dl
  · exact plays_bad w dl h A n c
  · exact plays_good w dl (by omega) (by omega) A n c hA hn
end Go.Proofs.Ytgiboekjjnmnnaa
