/-
  THE ARGUMENTS OPENED: what a reading of bytes, of lists of bytes, of a number says in the walks' own words.
-/
import Derived.Test.YtcnlgcmooegfkaaMem
import Derived.ProofKit
import Derived.OpenShut
import Derived.ShutString
import Derived.ChangeOld
import Derived.SizedLaws
import Derived.Deep.Slices
import Derived.Deep.CondSized
namespace Go.Proofs.Ytcnlgcmooegfkaa
open Go.ChangeShapes Go.WideShapes Go.ChangeAt Go.RowKit

/-- every weight of a datum is within the form's reach -/
def Fits {H : Type} (P : Program) (t : TypeId) (d : DataW H) : Prop := ∀ n ∈ d.weights P t, n ≤ reachBytes

theorem fits_of {H : Type} {P : Program} {ts : List TypeId} {ds : List (DataW H)} (h : (DataW.weightsEach P ts ds).all (· ≤ reachBytes) = true) (j : Nat) {t : TypeId} {d : DataW H} (ht : ts[j]? = some t) (hd : ds[j]? = some d) : Fits P t d := by
  intro n hn
  have := List.all_eq_true.1 h n (DataW.weights_mem_each ht hd n hn)
  simpa using this

theorem byte_of {z : Int} (h0 : 0 ≤ z) (h1 : z ≤ 255) : z = ((UInt8.ofNat z.toNat).toNat : Int) := by
  have h2 : (UInt8.ofNat z.toNat).toNat = z.toNat := by
    rw [UInt8.toNat_ofNat']
    exact Nat.mod_eq_of_lt (by omega)
  rw [h2]
  omega

section
variable {H : Type} {enc : TypeId × Value → H} {P : Program} {w : World} {base : Nat} {held : Bool}

theorem opened_bytes {t e : TypeId} {fuel : Nat} {A : Option Addr} {n c : Nat} {d : DataW H} {p : List MemPlace} (ht : P.underlying t = some (.slice e)) (he : P.underlying e = some (.int .u8)) (hc : P.cellsOf e = 1) (hby : P.bytesOf e = 1)
    (h : DataW.trod enc P w base (fun _ => true) held fuel t [.slice A n c] = some (d, p)) (hf : Fits P t d) :
    ∃ l : List UInt8, Rd w A n c l ∧ n ≤ 140737488351232 ∧ Rows.uptoBulk d ≥ n + 1 := by
  rcases open_ints ht he hc h with ⟨hcs, hx⟩ | ⟨a, len, cap, zs, hcs, _, hl, hm, hz, hx, hcell, hwz⟩
  · simp only [List.cons.injEq, Value.slice.injEq, and_true] at hcs
    obtain ⟨rfl, rfl, rfl⟩ := hcs
    simp only [Prod.mk.injEq] at hx
    obtain ⟨rfl, _⟩ := hx
    exact ⟨[], Rd.nil _ _ _, by omega, by simp [Rows.uptoBulk]⟩
  · simp only [List.cons.injEq, Value.slice.injEq, and_true] at hcs
    obtain ⟨rfl, rfl, rfl⟩ := hcs
    simp only [Prod.mk.injEq] at hx
    obtain ⟨rfl, _⟩ := hx
    have hz' : zs.length = c := by simpa using hz
    have hw := hf ((n + (c - n)) * 1) (by simp [DataW.weights, ht, hby, lits, hz']; omega)
    have hn : n ≤ 140737488351232 := by simp only [reachBytes] at hw; omega
    have key : ∀ i, i < zs.length → ∃ x : UInt8, (zs.getD i 0) = (x.toNat : Int) := by
      intro i hi
      have hmem : zs.getD i 0 ∈ zs := by
        have : zs.getD i 0 = zs[i] := by simp [List.getD, hi]
        rw [this]
        exact List.getElem_mem hi
      have hwf := hwz _ hmem
      have hb : 0 ≤ zs.getD i 0 ∧ zs.getD i 0 ≤ 255 := bounds_u8 hwf
      exact ⟨_, byte_of hb.1 hb.2⟩
    refine ⟨(zs.take n).map fun z => UInt8.ofNat z.toNat, ⟨by simp; omega, hl, by omega, fun hp => ?_⟩, hn, ?_⟩
    · obtain ⟨b, off, spot⟩ := a
      have hc0 := hcell 0 (by omega)
      have hspot : spot = none := by simpa [Addr.add] using World.cell?_spot hc0
      subst hspot
      have e0 : (⟨b, off, none⟩ : Addr).add 0 = ⟨b, off, none⟩ := rfl
      rw [e0] at hc0
      refine ⟨b, off, rfl, World.block_lt_of_cell? w _ hc0, fun j x hx => ?_⟩
      have hj : j < n := by
        have := (List.getElem?_eq_some_iff.1 hx).1
        simp at this
        omega
      have hcj := hcell j (by omega)
      rw [add_none] at hcj
      rw [hcj]
      obtain ⟨y, hy⟩ := key j (by omega)
      have hx2 : x = UInt8.ofNat (zs.getD j 0).toNat := by
        simp only [List.getElem?_map, Option.map_eq_some_iff] at hx
        obtain ⟨z, hz1, rfl⟩ := hx
        rw [List.getElem?_take, if_pos hj] at hz1
        rw [List.getD_eq_getElem?_getD, hz1]
        rfl
      have hy2 : x.toNat = y.toNat := by
        rw [hx2, hy]
        simp
      rw [hy, ← hy2]
    · have hlen : ∀ (k : IntKind) (l : List Int), Rows.uptoBulkAll (lits (H := H) k l) = l.length := by
        intro k l
        induction l with
        | nil => rfl
        | cons z l ih => simp only [lits, List.map_cons, Rows.uptoBulkAll, List.length_cons] at ih ⊢; rw [ih]; simp [Rows.uptoBulk]; omega
      simp only [Rows.uptoBulk, hlen, List.length_take, List.length_drop]
      omega

theorem opened_bytes' {t e : TypeId} {fuel : Nat} {v : Value} {d : DataW H} {p : List MemPlace} (ht : P.underlying t = some (.slice e)) (he : P.underlying e = some (.int .u8)) (hc : P.cellsOf e = 1) (hby : P.bytesOf e = 1)
    (h : DataW.trod enc P w base (fun _ => true) held fuel t [v] = some (d, p)) (hf : Fits P t d) :
    ∃ (A : Option Addr) (n c : Nat) (l : List UInt8), v = .slice A n c ∧ Rd w A n c l ∧ n ≤ 140737488351232 ∧ Rows.uptoBulk d ≥ n + 1 := by
  have hv : ∃ A n c, v = .slice A n c := by
    rcases open_ints ht he hc h with ⟨hcs, _⟩ | ⟨a, len, cap, zs, hcs, _⟩
    · exact ⟨none, 0, 0, by simpa using hcs⟩
    · exact ⟨some a, len, cap, by simpa using hcs⟩
  obtain ⟨A, n, c, rfl⟩ := hv
  obtain ⟨l, h1, h2, h3⟩ := opened_bytes ht he hc hby h hf
  exact ⟨A, n, c, l, rfl, h1, h2, h3⟩

theorem bulkAll_append (l r : List (DataW H)) : Rows.uptoBulkAll (l ++ r) = Rows.uptoBulkAll l + Rows.uptoBulkAll r := by
  induction l with
  | nil => simp [Rows.uptoBulkAll]
  | cons x l ih => simp only [List.cons_append, Rows.uptoBulkAll, ih]; omega

theorem weightsAll_mem (e : TypeId) {l : List (DataW H)} {d : DataW H} (hd : d ∈ l) {n : Nat} (hn : n ∈ d.weights P e) : n ∈ DataW.weightsAll P e l := by
  induction l with
  | nil => cases hd
  | cons x l ih =>
    simp only [DataW.weightsAll, List.mem_append]
    rcases List.mem_cons.1 hd with rfl | hd
    · exact .inl hn
    · exact .inr (ih hd)

/-- a family of lists, its lengths against a family of bulks -/
theorem flat_bulk (L : Nat → List UInt8) (D : Nat → DataW H) : ∀ n, (∀ i, i < n → (L i).length + 1 ≤ Rows.uptoBulk (D i)) →
    ((List.range n).map L).flatten.length + n ≤ Rows.uptoBulkAll ((List.range n).map D)
  | 0, _ => by simp
  | n + 1, h => by
    have ih := flat_bulk L D n (fun i hi => h i (by omega))
    have h1 := h n (by omega)
    rw [List.range_succ, List.map_append, List.map_append, bulkAll_append, List.flatten_append, List.length_append]
    simp only [List.map_cons, List.map_nil, List.flatten_cons, List.flatten_nil, List.append_nil, Rows.uptoBulkAll]
    omega

theorem opened_lists {t e e' : TypeId} {fuel : Nat} {A : Option Addr} {n c : Nat} {d : DataW H} {p : List MemPlace} (ht : P.underlying t = some (.slice e)) (he : P.underlying e = some (.slice e')) (he' : P.underlying e' = some (.int .u8))
    (hc : P.cellsOf e = 1) (hc' : P.cellsOf e' = 1) (hby : P.bytesOf e = 24) (hby' : P.bytesOf e' = 1)
    (h : DataW.trod enc P w base (fun _ => true) held fuel t [.slice A n c] = some (d, p)) (hf : Fits P t d) :
    ∃ ls : List (List UInt8), RdL w A n c ls ∧ n * 24 ≤ 140737488351232 ∧ (∀ l ∈ ls, l.length ≤ 140737488351232) ∧ ls.flatten.length + n + 1 ≤ Rows.uptoBulk d := by
  rcases Go.Deep.open_slice1 ht hc h with ⟨hcs, hx⟩ | ⟨a, len, cap, m, n1, V, D, Pl, hcs, _, hl, hm, hz, hx, hcell⟩
  · simp only [List.cons.injEq, Value.slice.injEq, and_true] at hcs
    obtain ⟨rfl, rfl, rfl⟩ := hcs
    simp only [Prod.mk.injEq] at hx
    obtain ⟨rfl, _⟩ := hx
    exact ⟨[], ⟨rfl, Nat.le_refl _, by omega, fun h => absurd h (by omega)⟩, by omega, by simp, by simp [Rows.uptoBulk]⟩
  · simp only [List.cons.injEq, Value.slice.injEq, and_true] at hcs
    obtain ⟨rfl, rfl, rfl⟩ := hcs
    simp only [Prod.mk.injEq] at hx
    obtain ⟨rfl, _⟩ := hx
    have hz' : m = c := by simpa using hz
    subst hz'
    have hw := hf ((n + (m - n)) * 24) (by simp [DataW.weights, ht, hby])
    have hn : n * 24 ≤ 140737488351232 := by simp only [reachBytes] at hw; omega
    have hfi : ∀ i, i < n → Fits P e (D i) := fun i hi k hk => hf k (by
      simp only [DataW.weights, ht, List.mem_cons, List.mem_append]
      exact .inr (.inl (weightsAll_mem e (List.mem_map.2 ⟨i, List.mem_range.2 hi, rfl⟩) hk)))
    obtain ⟨L, hL⟩ := Go.Deep.choose_lt (α := List UInt8) (n := n) (p := fun i l => ∃ (A' : Option Addr) (n' c' : Nat), w.cell? (a.add i) = some (.slice A' n' c') ∧ Rd w A' n' c' l ∧ l.length ≤ 140737488351232 ∧ l.length + 1 ≤ Rows.uptoBulk (D i)) (fun i hi => by
      obtain ⟨h1, h2⟩ := hcell i (by omega)
      obtain ⟨A', n', c', l, hv, hr, hb, hu⟩ := opened_bytes' he he' hc' hby' h2 (hfi i hi)
      rw [hv] at h1
      exact ⟨l, A', n', c', h1, hr, by rw [hr.len]; exact hb, by rw [hr.len]; exact hu⟩)
    refine ⟨(List.range n).map L, ⟨by simp, hl, by omega, fun hp => ?_⟩, hn, ?_, ?_⟩
    · obtain ⟨b, off, spot⟩ := a
      obtain ⟨_, _, _, hc0, _⟩ := hL 0 (by omega)
      have hspot : spot = none := by simpa [Addr.add] using World.cell?_spot hc0
      subst hspot
      rw [show (⟨b, off, none⟩ : Addr).add 0 = ⟨b, off, none⟩ from rfl] at hc0
      refine ⟨b, off, rfl, World.block_lt_of_cell? w _ hc0, fun j l hj => ?_⟩
      have hjn : j < n := by
        have := (List.getElem?_eq_some_iff.1 hj).1
        simpa using this
      obtain ⟨A', n', c', hcj, hr, _⟩ := hL j hjn
      rw [add_none] at hcj
      have : L j = l := by simpa [hjn] using hj
      exact ⟨A', n', c', hcj, this ▸ hr⟩
    · intro l hl'
      obtain ⟨i, hi, rfl⟩ := List.mem_map.1 hl'
      obtain ⟨_, _, _, _, _, hb, _⟩ := hL i (List.mem_range.1 hi)
      exact hb
    · have hfb := flat_bulk L D n (fun i hi => by obtain ⟨_, _, _, _, _, _, hu⟩ := hL i hi; exact hu)
      simp only [Rows.uptoBulk]
      omega
end

theorem nat_u16 {x : Int} (h : (Lit.int .u16 x).wf = true) : ∃ n : Nat, x = (n : Int) ∧ n < 65536 := by
  have := bounds_u16 h
  exact ⟨x.toNat, by omega, by omega⟩
theorem nat_u32 {x : Int} (h : (Lit.int .u32 x).wf = true) : ∃ n : Nat, x = (n : Int) ∧ n < 4294967296 := by
  have := bounds_u32 h
  exact ⟨x.toNat, by omega, by omega⟩
theorem byte_u8 {x : Int} (h : (Lit.int .u8 x).wf = true) : ∃ b : UInt8, x = (b.toNat : Int) := by
  have := bounds_u8 h
  exact ⟨_, byte_of this.1 this.2⟩
theorem own_knob : ownKnob Try.prog.godebug = none := by kernel_rfl
theorem laid_out : laidOutB Try.prog = true := by kernel_rfl
end Go.Proofs.Ytcnlgcmooegfkaa
