/-
  A SLICE OF NUMBERS, AS AN ARGUMENT AND AS IT IS READ.
-/
import Derived.Test.YtpfilomckijmkaaOpen
import Derived.Test.YtpfilomckijmkaaCells
namespace Go.Proofs.Ytpfilomckijmkaa
open Go.ChangeShapes Go.WideShapes Go.ChangeAt Go.RowKit

/-- the cells of numbers -/
def ints (zs : List Int) : List Value := zs.map (Value.int .i64)

theorem opened_nums {H : Type} {enc : TypeId × Value → H} {P : Program} {w : World} {base : Nat} {held : Bool} {t e : TypeId} {fuel : Nat} {A : Option Addr} {n c : Nat} {d : DataW H} {p : List MemPlace} (ht : P.underlying t = some (.slice e)) (he : P.underlying e = some (.int .i64)) (hc : P.cellsOf e = 1) (hby : P.bytesOf e = 8)
    (h : DataW.trod enc P w base (fun _ => true) held fuel t [.slice A n c] = some (d, p)) (hf : Fits P t d) :
    ∃ zs : List Int, RdC w A n c 1 (ints zs) ∧ n * 8 ≤ 140737488351232 := by
  rcases open_ints ht he hc h with ⟨hcs, hx⟩ | ⟨a, len, cap, zs, hcs, _, hl, hm, hz, hx, hcell, hwz⟩
  · simp only [List.cons.injEq, Value.slice.injEq, and_true] at hcs
    obtain ⟨rfl, rfl, rfl⟩ := hcs
    exact ⟨[], RdC.nil _ _ _ _, by omega⟩
  · simp only [List.cons.injEq, Value.slice.injEq, and_true] at hcs
    obtain ⟨rfl, rfl, rfl⟩ := hcs
    simp only [Prod.mk.injEq] at hx
    obtain ⟨rfl, _⟩ := hx
    have hz' : zs.length = c := by simpa using hz
    have hw := hf ((n + (c - n)) * 8) (by simp [DataW.weights, ht, hby, lits, hz']; omega)
    have hn : n * 8 ≤ 140737488351232 := by simp only [reachBytes] at hw; omega
    refine ⟨zs.take n, ⟨by simp [ints]; omega, hl, by omega, fun hp => ?_⟩, hn⟩
    obtain ⟨b, off, spot⟩ := a
    have hc0 := hcell 0 (by omega)
    have hspot : spot = none := by simpa [Addr.add] using World.cell?_spot hc0
    subst hspot
    rw [show (⟨b, off, none⟩ : Addr).add 0 = ⟨b, off, none⟩ from rfl] at hc0
    refine ⟨b, off, rfl, World.block_lt_of_cell? w _ hc0, fun j u hu => ?_⟩
    have hj : j < n := by
      have := (List.getElem?_eq_some_iff.1 hu).1
      simp [ints] at this
      omega
    have hcj := hcell j (by omega)
    rw [add_none] at hcj
    rw [hcj]
    simp only [ints, List.getElem?_map, Option.map_eq_some_iff] at hu
    obtain ⟨z, hz1, rfl⟩ := hu
    rw [List.getElem?_take, if_pos hj] at hz1
    rw [List.getD_eq_getElem?_getD, hz1]
    rfl
/-- one of them -/
theorem RdC.num {w : World} {A : Option Addr} {n c : Nat} {zs : List Int} (h : RdC w A n c 1 (ints zs)) {k : Nat} (hk : k < n) : ∃ b off z, A = some ⟨b, off, none⟩ ∧ b < w.heap.size ∧ w.cell? ⟨b, off + k, none⟩ = some (.int .i64 z) := by
  obtain ⟨b, off, e, hb, hc⟩ := h.at_ (by omega)
  have hl : k < zs.length := by have := h.len; simp [ints] at this; omega
  exact ⟨b, off, zs[k], e, hb, hc k _ (by simp [ints, hl])⟩
end Go.Proofs.Ytpfilomckijmkaa
