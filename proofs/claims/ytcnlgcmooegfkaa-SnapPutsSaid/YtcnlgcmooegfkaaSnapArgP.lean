/-
  THE ARGUMENTS OPENED: what a reading of bytes, of lists of bytes, of a number says in the walks' own words.
  A SLICE OF NUMBERS, AS AN ARGUMENT AND AS IT IS READ.
  A STATE AS AN ARGUMENT, with the sizes of its slices.
-/
import Derived.Test.YtcnlgcmooegfkaaMem
import Derived.ProofKit
import Derived.OpenShut
import Derived.ShutString
import Derived.ChangeOld
import Derived.SizedLaws
import Derived.Deep.Slices
import Derived.Deep.CondSized
import Derived.Test.YtcnlgcmooegfkaaCells
import Derived.Test.YtcnlgcmooegfkaaSnapMem
import Derived.Lib.SmallJoins
namespace Go.Proofs.Ytcnlgcmooegfkaa
open Go.ChangeShapes Go.WideShapes Go.ChangeAt Go.RowKit

/-- every weight of a datum is within the form's reach -/
def Fits {H : Type} (P : Program) (t : TypeId) (d : DataW H) : Prop := ∀ n ∈ d.weights P t, n ≤ reachBytes

theorem fits_of {H : Type} {P : Program} {ts : List TypeId} {ds : List (DataW H)} (h : (DataW.weightsEach P ts ds).all (· ≤ reachBytes) = true) (j : Nat) {t : TypeId} {d : DataW H} (ht : ts[j]? = some t) (hd : ds[j]? = some d) : Fits P t d := by
  intro n hn; have := List.all_eq_true.1 h n (DataW.weights_mem_each ht hd n hn)
  simpa using this

theorem byte_of {z : Int} (h0 : 0 ≤ z) (h1 : z ≤ 255) : z = ((UInt8.ofNat z.toNat).toNat : Int) := by
  have h2 : (UInt8.ofNat z.toNat).toNat = z.toNat := by
    rw [UInt8.toNat_ofNat']; exact Nat.mod_eq_of_lt (by omega)
  rw [h2]; omega

section
variable {H : Type} {enc : TypeId × Value → H} {P : Program} {w : World} {base : Nat} {held : Bool}

theorem opened_bytes {t e : TypeId} {fuel : Nat} {A : Option Addr} {n c : Nat} {d : DataW H} {p : List MemPlace} (ht : P.underlying t = some (.slice e)) (he : P.underlying e = some (.int .u8)) (hc : P.cellsOf e = 1) (hby : P.bytesOf e = 1)
    (h : DataW.trod enc P w base (fun _ => true) held fuel t [.slice A n c] = some (d, p)) (hf : Fits P t d) :
    ∃ l : List UInt8, Rd w A n c l ∧ n ≤ 140737488351232 ∧ Rows.uptoBulk d ≥ n + 1 := by
  rcases open_ints ht he hc h with ⟨hcs, hx⟩ | ⟨a, len, cap, zs, hcs, _, hl, hm, hz, hx, hcell, hwz⟩
  · simp only [List.cons.injEq, Value.slice.injEq, and_true] at hcs; obtain ⟨rfl, rfl, rfl⟩ := hcs; simp only [Prod.mk.injEq] at hx; obtain ⟨rfl, _⟩ := hx; exact ⟨[], Rd.nil _ _ _, by omega, by simp [Rows.uptoBulk]⟩
  · simp only [List.cons.injEq, Value.slice.injEq, and_true] at hcs; obtain ⟨rfl, rfl, rfl⟩ := hcs; simp only [Prod.mk.injEq] at hx; obtain ⟨rfl, _⟩ := hx; have hz' : zs.length = c := by simpa using hz
    have hw := hf ((n + (c - n)) * 1) (by simp [DataW.weights, ht, hby, lits, hz']; omega); have hn : n ≤ 140737488351232 := by simp only [reachBytes] at hw; omega
    have key : ∀ i, i < zs.length → ∃ x : UInt8, (zs.getD i 0) = (x.toNat : Int) := by
      intro i hi; have hmem : zs.getD i 0 ∈ zs := by
        have : zs.getD i 0 = zs[i] := by simp [List.getD, hi]
        rw [this]; exact List.getElem_mem hi
      have hwf := hwz _ hmem; have hb : 0 ≤ zs.getD i 0 ∧ zs.getD i 0 ≤ 255 := bounds_u8 hwf; exact ⟨_, byte_of hb.1 hb.2⟩
    refine ⟨(zs.take n).map fun z => UInt8.ofNat z.toNat, ⟨by simp; omega, hl, by omega, fun hp => ?_⟩, hn, ?_⟩
    · obtain ⟨b, off, spot⟩ := a; have hc0 := hcell 0 (by omega); have hspot : spot = none := by simpa [Addr.add] using World.cell?_spot hc0
      subst hspot; have e0 : (⟨b, off, none⟩ : Addr).add 0 = ⟨b, off, none⟩ := rfl; rw [e0] at hc0; refine ⟨b, off, rfl, World.block_lt_of_cell? w _ hc0, fun j x hx => ?_⟩; have hj : j < n := by
        have := (List.getElem?_eq_some_iff.1 hx).1; simp at this; omega
      have hcj := hcell j (by omega); rw [add_none] at hcj; rw [hcj]; obtain ⟨y, hy⟩ := key j (by omega); have hx2 : x = UInt8.ofNat (zs.getD j 0).toNat := by
        simp only [List.getElem?_map, Option.map_eq_some_iff] at hx; obtain ⟨z, hz1, rfl⟩ := hx; rw [List.getElem?_take, if_pos hj] at hz1; rw [List.getD_eq_getElem?_getD, hz1]; rfl
      have hy2 : x.toNat = y.toNat := by
        rw [hx2, hy]; simp
      rw [hy, ← hy2]
    · have hlen : ∀ (k : IntKind) (l : List Int), Rows.uptoBulkAll (lits (H := H) k l) = l.length := by
        intro k l
        induction l with
        | nil => rfl
        | cons z l ih => simp only [lits, List.map_cons, Rows.uptoBulkAll, List.length_cons] at ih ⊢; rw [ih]; simp [Rows.uptoBulk]; omega
      simp only [Rows.uptoBulk, hlen, List.length_take, List.length_drop]; omega

theorem opened_bytes' {t e : TypeId} {fuel : Nat} {v : Value} {d : DataW H} {p : List MemPlace} (ht : P.underlying t = some (.slice e)) (he : P.underlying e = some (.int .u8)) (hc : P.cellsOf e = 1) (hby : P.bytesOf e = 1)
    (h : DataW.trod enc P w base (fun _ => true) held fuel t [v] = some (d, p)) (hf : Fits P t d) :
    ∃ (A : Option Addr) (n c : Nat) (l : List UInt8), v = .slice A n c ∧ Rd w A n c l ∧ n ≤ 140737488351232 ∧ Rows.uptoBulk d ≥ n + 1 := by
  have hv : ∃ A n c, v = .slice A n c := by
    rcases open_ints ht he hc h with ⟨hcs, _⟩ | ⟨a, len, cap, zs, hcs, _⟩
    · exact ⟨none, 0, 0, by simpa using hcs⟩
    · exact ⟨some a, len, cap, by simpa using hcs⟩
  obtain ⟨A, n, c, rfl⟩ := hv; obtain ⟨l, h1, h2, h3⟩ := opened_bytes ht he hc hby h hf; exact ⟨A, n, c, l, rfl, h1, h2, h3⟩

theorem bulkAll_append (l r : List (DataW H)) : Rows.uptoBulkAll (l ++ r) = Rows.uptoBulkAll l + Rows.uptoBulkAll r := by
  induction l with
  | nil => simp [Rows.uptoBulkAll]
  | cons x l ih => simp only [List.cons_append, Rows.uptoBulkAll, ih]; omega

theorem weightsAll_mem (e : TypeId) {l : List (DataW H)} {d : DataW H} (hd : d ∈ l) {n : Nat} (hn : n ∈ d.weights P e) : n ∈ DataW.weightsAll P e l := by
  induction l with
  | nil => cases hd
  | cons x l ih =>
    simp only [DataW.weightsAll, List.mem_append]
    rcases List.mem_cons.1 hd with rfl | hd
    · exact .inl hn
    · exact .inr (ih hd)

/-- a family of lists, its lengths against a family of bulks -/
theorem flat_bulk (L : Nat → List UInt8) (D : Nat → DataW H) : ∀ n, (∀ i, i < n → (L i).length + 1 ≤ Rows.uptoBulk (D i)) →
    ((List.range n).map L).flatten.length + n ≤ Rows.uptoBulkAll ((List.range n).map D)
  | 0, _ => by simp
  | n + 1, h => by
    have ih := flat_bulk L D n (fun i hi => h i (by omega)); have h1 := h n (by omega); rw [List.range_succ, List.map_append, List.map_append, bulkAll_append, List.flatten_append, List.length_append]; simp only [List.map_cons, List.map_nil, List.flatten_cons, List.flatten_nil, List.append_nil, Rows.uptoBulkAll]; omega

theorem opened_lists {t e e' : TypeId} {fuel : Nat} {A : Option Addr} {n c : Nat} {d : DataW H} {p : List MemPlace} (ht : P.underlying t = some (.slice e)) (he : P.underlying e = some (.slice e')) (he' : P.underlying e' = some (.int .u8))
    (hc : P.cellsOf e = 1) (hc' : P.cellsOf e' = 1) (hby : P.bytesOf e = 24) (hby' : P.bytesOf e' = 1)
    (h : DataW.trod enc P w base (fun _ => true) held fuel t [.slice A n c] = some (d, p)) (hf : Fits P t d) :
    ∃ ls : List (List UInt8), RdL w A n c ls ∧ n * 24 ≤ 140737488351232 ∧ (∀ l ∈ ls, l.length ≤ 140737488351232) ∧ ls.flatten.length + n + 1 ≤ Rows.uptoBulk d := by
  rcases Go.Deep.open_slice1 ht hc h with ⟨hcs, hx⟩ | ⟨a, len, cap, m, n1, V, D, Pl, hcs, _, hl, hm, hz, hx, hcell⟩
  · simp only [List.cons.injEq, Value.slice.injEq, and_true] at hcs; obtain ⟨rfl, rfl, rfl⟩ := hcs; simp only [Prod.mk.injEq] at hx; obtain ⟨rfl, _⟩ := hx; exact ⟨[], ⟨rfl, Nat.le_refl _, by omega, fun h => absurd h (by omega)⟩, by omega, by simp, by simp [Rows.uptoBulk]⟩
  · simp only [List.cons.injEq, Value.slice.injEq, and_true] at hcs; obtain ⟨rfl, rfl, rfl⟩ := hcs; simp only [Prod.mk.injEq] at hx; obtain ⟨rfl, _⟩ := hx; have hz' : m = c := by simpa using hz
    subst hz'; have hw := hf ((n + (m - n)) * 24) (by simp [DataW.weights, ht, hby]); have hn : n * 24 ≤ 140737488351232 := by simp only [reachBytes] at hw; omega
    have hfi : ∀ i, i < n → Fits P e (D i) := fun i hi k hk => hf k (by
      simp only [DataW.weights, ht, List.mem_cons, List.mem_append]; exact .inr (.inl (weightsAll_mem e (List.mem_map.2 ⟨i, List.mem_range.2 hi, rfl⟩) hk)))
    obtain ⟨L, hL⟩ := Go.Deep.choose_lt (α := List UInt8) (n := n) (p := fun i l => ∃ (A' : Option Addr) (n' c' : Nat), w.cell? (a.add i) = some (.slice A' n' c') ∧ Rd w A' n' c' l ∧ l.length ≤ 140737488351232 ∧ l.length + 1 ≤ Rows.uptoBulk (D i)) (fun i hi => by
      obtain ⟨h1, h2⟩ := hcell i (by omega); obtain ⟨A', n', c', l, hv, hr, hb, hu⟩ := opened_bytes' he he' hc' hby' h2 (hfi i hi); rw [hv] at h1; exact ⟨l, A', n', c', h1, hr, by rw [hr.len]; exact hb, by rw [hr.len]; exact hu⟩)
    refine ⟨(List.range n).map L, ⟨by simp, hl, by omega, fun hp => ?_⟩, hn, ?_, ?_⟩
    · obtain ⟨b, off, spot⟩ := a; obtain ⟨_, _, _, hc0, _⟩ := hL 0 (by omega); have hspot : spot = none := by simpa [Addr.add] using World.cell?_spot hc0
      subst hspot; rw [show (⟨b, off, none⟩ : Addr).add 0 = ⟨b, off, none⟩ from rfl] at hc0; refine ⟨b, off, rfl, World.block_lt_of_cell? w _ hc0, fun j l hj => ?_⟩; have hjn : j < n := by
        have := (List.getElem?_eq_some_iff.1 hj).1
        simpa using this
      obtain ⟨A', n', c', hcj, hr, _⟩ := hL j hjn; rw [add_none] at hcj; have : L j = l := by simpa [hjn] using hj
      exact ⟨A', n', c', hcj, this ▸ hr⟩
    · intro l hl'; obtain ⟨i, hi, rfl⟩ := List.mem_map.1 hl'; obtain ⟨_, _, _, _, _, hb, _⟩ := hL i (List.mem_range.1 hi); exact hb
    · have hfb := flat_bulk L D n (fun i hi => by obtain ⟨_, _, _, _, _, _, hu⟩ := hL i hi; exact hu); simp only [Rows.uptoBulk]; omega
end

theorem nat_u16 {x : Int} (h : (Lit.int .u16 x).wf = true) : ∃ n : Nat, x = (n : Int) ∧ n < 65536 := by
  have := bounds_u16 h; exact ⟨x.toNat, by omega, by omega⟩
theorem nat_u32 {x : Int} (h : (Lit.int .u32 x).wf = true) : ∃ n : Nat, x = (n : Int) ∧ n < 4294967296 := by
  have := bounds_u32 h; exact ⟨x.toNat, by omega, by omega⟩
theorem byte_u8 {x : Int} (h : (Lit.int .u8 x).wf = true) : ∃ b : UInt8, x = (b.toNat : Int) := by
  have := bounds_u8 h; exact ⟨_, byte_of this.1 this.2⟩
theorem own_knob : ownKnob Try.prog.godebug = none := by kernel_rfl
theorem laid_out : laidOutB Try.prog = true := by kernel_rfl
end Go.Proofs.Ytcnlgcmooegfkaa
namespace Go.Proofs.Ytcnlgcmooegfkaa
open Go.ChangeShapes Go.WideShapes Go.ChangeAt Go.RowKit

/-- the cells of numbers -/
def ints (zs : List Int) : List Value := zs.map (Value.int .i64)

theorem opened_nums {H : Type} {enc : TypeId × Value → H} {P : Program} {w : World} {base : Nat} {held : Bool} {t e : TypeId} {fuel : Nat} {A : Option Addr} {n c : Nat} {d : DataW H} {p : List MemPlace} (ht : P.underlying t = some (.slice e)) (he : P.underlying e = some (.int .i64)) (hc : P.cellsOf e = 1) (hby : P.bytesOf e = 8)
    (h : DataW.trod enc P w base (fun _ => true) held fuel t [.slice A n c] = some (d, p)) (hf : Fits P t d) :
    ∃ zs : List Int, RdC w A n c 1 (ints zs) ∧ n * 8 ≤ 140737488351232 := by
  rcases open_ints ht he hc h with ⟨hcs, hx⟩ | ⟨a, len, cap, zs, hcs, _, hl, hm, hz, hx, hcell, hwz⟩
  · simp only [List.cons.injEq, Value.slice.injEq, and_true] at hcs; obtain ⟨rfl, rfl, rfl⟩ := hcs; exact ⟨[], RdC.nil _ _ _ _, by omega⟩
  · simp only [List.cons.injEq, Value.slice.injEq, and_true] at hcs; obtain ⟨rfl, rfl, rfl⟩ := hcs; simp only [Prod.mk.injEq] at hx; obtain ⟨rfl, _⟩ := hx; have hz' : zs.length = c := by simpa using hz
    have hw := hf ((n + (c - n)) * 8) (by simp [DataW.weights, ht, hby, lits, hz']; omega); have hn : n * 8 ≤ 140737488351232 := by simp only [reachBytes] at hw; omega
    refine ⟨zs.take n, ⟨by simp [ints]; omega, hl, by omega, fun hp => ?_⟩, hn⟩; obtain ⟨b, off, spot⟩ := a; have hc0 := hcell 0 (by omega); have hspot : spot = none := by simpa [Addr.add] using World.cell?_spot hc0
    subst hspot; rw [show (⟨b, off, none⟩ : Addr).add 0 = ⟨b, off, none⟩ from rfl] at hc0; refine ⟨b, off, rfl, World.block_lt_of_cell? w _ hc0, fun j u hu => ?_⟩; have hj : j < n := by
      have := (List.getElem?_eq_some_iff.1 hu).1; simp [ints] at this; omega
    have hcj := hcell j (by omega); rw [add_none] at hcj; rw [hcj]; simp only [ints, List.getElem?_map, Option.map_eq_some_iff] at hu; obtain ⟨z, hz1, rfl⟩ := hu; rw [List.getElem?_take, if_pos hj] at hz1; rw [List.getD_eq_getElem?_getD, hz1]; rfl
/-- one of them -/
theorem RdC.num {w : World} {A : Option Addr} {n c : Nat} {zs : List Int} (h : RdC w A n c 1 (ints zs)) {k : Nat} (hk : k < n) : ∃ b off z, A = some ⟨b, off, none⟩ ∧ b < w.heap.size ∧ w.cell? ⟨b, off + k, none⟩ = some (.int .i64 z) := by
  obtain ⟨b, off, e, hb, hc⟩ := h.at_ (by omega); have hl : k < zs.length := by have := h.len; simp [ints] at this; omega
  exact ⟨b, off, zs[k], e, hb, hc k _ (by simp [ints, hl])⟩
end Go.Proofs.Ytcnlgcmooegfkaa
namespace Go.Proofs.Ytcnlgcmooegfkaa
open Go.RowKit Go.ChangeShapes Go.WideShapes Go.ChangeAt Mg Sn

instance : Inhabited Nx := ⟨⟨0, 0⟩⟩
instance : Inhabited Ms := ⟨⟨⟨0, 0, 0, 0⟩, []⟩⟩
instance : Inhabited Mk := ⟨⟨0, 0, 0, []⟩⟩
theorem lists2 {α : Type} {l : List α} (h : l.length = 2) : ∃ a b, l = [a, b] := by
  match l, h with
  | [a, b], _ => exact ⟨a, b, rfl⟩
theorem lists4 {α : Type} {l : List α} (h : l.length = 4) : ∃ a b c d, l = [a, b, c, d] := by
  match l, h with
  | [a, b, c, d], _ => exact ⟨a, b, c, d, rfl⟩
theorem lists5 {α : Type} {l : List α} (h : l.length = 5) : ∃ a b c d e, l = [a, b, c, d, e] := by
  match l, h with
  | [a, b, c, d, e], _ => exact ⟨a, b, c, d, e, rfl⟩

section
variable {H : Type} {enc : TypeId × Value → H} {w : World} {base : Nat} {held : Bool} {r : Reach}

/-- a slice of structs -/
theorem opened_rde {α : Type} [Inhabited α] {P : Program} {E : ElP α} {size bytes : Nat} {t e : TypeId} {fuel : Nat} {A : Option Addr} {n c : Nat} {d : DataW H} {p : List MemPlace} (ht : P.underlying t = some (.slice e)) (hc : P.cellsOf e = size) (h0 : 0 < size) (hby : P.bytesOf e = bytes) (hb1 : 0 < bytes)
    (hE : ∀ (fuel : Nat) (cs : List Value) (d : DataW H) (p : List MemPlace), DataW.trod enc P w base (fun _ => true) held fuel e cs = some (d, p) → Fits P e d → ∃ x, E w 0 x cs)
    (h : DataW.trod enc P w base (fun _ => true) held fuel t [.slice A n c] = some (d, p)) (hf : Fits P t d) :
    ∃ l : List α, RdE E size w 0 A n c l ∧ n * bytes ≤ 140737488351232 := by
  rcases Go.Deep.open_slice ht h with ⟨hcs, hx⟩ | ⟨a, len, cap, m, n1, D, Pl, hcs, _, hl, hm, hz, hx, hcell⟩
  · simp only [List.cons.injEq, Value.slice.injEq, and_true] at hcs; obtain ⟨rfl, rfl, rfl⟩ := hcs; exact ⟨[], RdE.nil _ _ _ _, by omega⟩
  · simp only [List.cons.injEq, Value.slice.injEq, and_true] at hcs; obtain ⟨rfl, rfl, rfl⟩ := hcs; simp only [Prod.mk.injEq] at hx; obtain ⟨rfl, _⟩ := hx; have hz' : m = c := by simpa using hz
    subst hz'; have hw := hf ((n + (m - n)) * bytes) (by simp [DataW.weights, ht, hby]); have hn : n ≤ 281474976710656 := by
      have h9 := Nat.le_mul_of_pos_right (n + (m - n)) hb1; simp only [reachBytes] at hw; omega
    have hfi : ∀ i, i < n → Fits P e (D i) := fun i hi k hk => hf k (by
      simp only [DataW.weights, ht, List.mem_cons, List.mem_append]; exact .inr (.inl (weightsAll_mem e (List.mem_map.2 ⟨i, List.mem_range.2 hi, rfl⟩) hk)))
    obtain ⟨L, hL⟩ := Go.Deep.choose_lt (α := α) (n := n) (p := fun i x => ∃ cs, w.cells? base (a.add (i * size)) size = some cs ∧ E w 0 x cs) (fun i hi => by
      obtain ⟨cs, h1, h2⟩ := hcell i (by omega); rw [hc] at h1; obtain ⟨x, hx⟩ := hE _ _ _ _ h2 (hfi i hi); exact ⟨x, cs, h1, hx⟩)
    have hnb : n * bytes ≤ 140737488351232 := by
      have h9 : n * bytes ≤ (n + (m - n)) * bytes := Nat.mul_le_mul_right _ (by omega); simp only [reachBytes] at hw; omega
    refine ⟨(List.range n).map L, ⟨by simp, hl, hn, fun hp => ?_⟩, hnb⟩; obtain ⟨b, off, spot⟩ := a; obtain ⟨cs0, hc0, _⟩ := hL 0 hp; obtain ⟨_, hl0, hcc0⟩ := World.cells?_some hc0; obtain ⟨u0, hu0⟩ : ∃ u, cs0[0]? = some u := ⟨cs0[0]'(by omega), List.getElem?_eq_getElem (by omega)⟩; have hcell0 := (hcc0 0 h0).trans hu0; have hspot : spot = none := by simpa [Addr.add] using World.cell?_spot hcell0
    subst hspot; rw [Nat.zero_mul, add_none, add_none] at hcell0; have hblt : b < w.heap.size := World.block_lt_of_cell? w _ hcell0; refine ⟨b, off, rfl, Nat.zero_le _, hblt, fun j x hj => ?_⟩; have hjn : j < n := by
      have := (List.getElem?_eq_some_iff.1 hj).1
      simpa using this
    obtain ⟨cs, hcj, he⟩ := hL j hjn; obtain ⟨_, hlj, hccj⟩ := World.cells?_some hcj; have hxj : L j = x := by simpa [hjn] using hj
    subst hxj; refine ⟨cs, he, hlj, fun i u hu => ?_⟩; have hi : i < size := by
      have := (List.getElem?_eq_some_iff.1 hu).1; omega
    have h9 := hccj i hi; rw [add_none, add_none] at h9; exact h9.trans hu
theorem int_cell {fuel : Nat} {cs : List Value} {x : DataW H × List MemPlace} (h : DataW.trod enc Try.prog w base (fun _ => true) held fuel 3 cs = some x) : ∃ i, cs = [.int .i64 i] := by
  obtain ⟨i, e, _, _⟩ := DataW.trod_int Try.underlying3 h; exact ⟨i, e⟩
theorem open_nx {fuel : Nat} {cs : List Value} {d : DataW H} {p : List MemPlace} (h : DataW.trod enc Try.prog w base (fun _ => true) held fuel 50 cs = some (d, p)) : ∃ x, ENx w 0 x cs := by
  obtain ⟨y0, y1, m, _, hl, z0, z1⟩ := trod_struct2 Try.underlying50 h; obtain ⟨c0, c1, rfl⟩ := lists2 (hl.trans (by kernel_rfl : _ = 2)); have k0 : Try.prog.cellsOf 3 = 1 := by kernel_rfl
  simp only [k0, List.drop_zero, List.drop_succ_cons, List.take_succ_cons, List.take_zero] at z0 z1; obtain ⟨i0, e0⟩ := int_cell z0; obtain ⟨i1, e1⟩ := int_cell z1; simp only [List.cons.injEq, and_true] at e0 e1; subst e0 e1; exact ⟨⟨i0, i1⟩, rfl⟩
theorem open_idc {fuel : Nat} {cs : List Value} {x : DataW H × List MemPlace} (h : DataW.trod enc Try.prog w base (fun _ => true) held fuel 52 cs = some x) :
    ∃ i : Mid, cs = [.int .i64 i.o, .int .i64 i.d, .int .i64 i.e, .int .i64 i.c] := by
  obtain ⟨y0, y1, y2, y3, m, _, hl, z0, z1, z2, z3⟩ := Go.Joins.trod_struct4 Try.underlying52 h; obtain ⟨c0, c1, c2, c3, rfl⟩ := lists4 (hl.trans (by kernel_rfl : _ = 4)); have k0 : Try.prog.cellsOf 3 = 1 := by kernel_rfl
  simp only [k0, List.drop_zero, List.drop_succ_cons, List.take_succ_cons, List.take_zero] at z0 z1 z2 z3; obtain ⟨i0, e0⟩ := int_cell z0; obtain ⟨i1, e1⟩ := int_cell z1; obtain ⟨i2, e2⟩ := int_cell z2; obtain ⟨i3, e3⟩ := int_cell z3; simp only [List.cons.injEq, and_true] at e0 e1 e2 e3; subst e0 e1 e2 e3; exact ⟨⟨i0, i1, i2, i3⟩, rfl⟩
theorem open_ms {fuel : Nat} {cs : List Value} {d : DataW H} {p : List MemPlace} (h : DataW.trod enc Try.prog w base (fun _ => true) held fuel 54 cs = some (d, p)) (hf : Fits Try.prog 54 d) : ∃ x : Ms, EMs w 0 x cs ∧ x.l.length ≤ 140737488351232 := by
  obtain ⟨y0, y1, m', hx, hl, z0, z1⟩ := trod_struct2 Try.underlying54 h; simp only [Prod.mk.injEq] at hx; obtain ⟨rfl, _⟩ := hx; have k0 : Try.prog.cellsOf 52 = 4 := by kernel_rfl
  have k1 : Try.prog.cellsOf 28 = 1 := by kernel_rfl
  obtain ⟨c0, c1, c2, c3, c4, rfl⟩ := lists5 (hl.trans (by kernel_rfl : _ = 5)); simp only [k0, k1, List.drop_zero, List.drop_succ_cons, List.take_succ_cons, List.take_zero] at z0 z1; obtain ⟨i, e⟩ := open_idc z0; have hf1 : Fits Try.prog 28 y1.1 := fun k hk => hf k (by
    simp only [DataW.weights, Try.underlying54, List.map_cons, List.map_nil, DataW.weightsEach, List.mem_append]; exact .inr (.inl hk))
  obtain ⟨A, n, c, l, e4, hr, hlb, _⟩ := opened_bytes' Try.underlying28 Try.underlying5 (by kernel_rfl) (by kernel_rfl) z1 hf1; simp only [List.cons.injEq, and_true] at e; obtain ⟨rfl, rfl, rfl, rfl⟩ := e; subst e4; obtain rfl := hr.len; exact ⟨⟨i, l⟩, ⟨A, c, rfl, hr, fun hn => by
    obtain ⟨b, off, e, _⟩ := hr.at_ hn; exact ⟨b, off, e, Nat.zero_le _⟩⟩, hlb⟩
theorem rde_nums {A : Option Addr} {n c : Nat} {zs : List Int} (h : RdC w A n c 1 (ints zs)) : RdE EInt 1 w 0 A n c zs := by
  have hl : zs.length = n := by have := h.len; simp [ints] at this; omega
  refine ⟨hl, h.cap, h.big, fun hn => ?_⟩; obtain ⟨b, off, e, hb, hc⟩ := h.at_ hn; refine ⟨b, off, e, Nat.zero_le _, hb, fun j x hx => ⟨[.int .i64 x], rfl, rfl, fun i u hu => ?_⟩⟩
  match i, hu with
  | 0, hu =>
    injection hu with hu
    subst hu; rw [Nat.mul_one, Nat.add_zero]; exact hc j _ (by simp [ints, hx])
theorem open_mk {fuel : Nat} {cs : List Value} {d : DataW H} {p : List MemPlace} (h : DataW.trod enc Try.prog w base (fun _ => true) held fuel 58 cs = some (d, p)) (hf : Fits Try.prog 58 d) : ∃ x : Mk, EMk w 0 x cs ∧ x.m.length * 8 ≤ 140737488351232 := by
  obtain ⟨y0, y1, y2, y3, m, hx, hl, z0, z1, z2, z3⟩ := Go.Joins.trod_struct4 Try.underlying58 h; simp only [Prod.mk.injEq] at hx; obtain ⟨rfl, _⟩ := hx; have k0 : Try.prog.cellsOf 3 = 1 := by kernel_rfl
  have k1 : Try.prog.cellsOf 56 = 1 := by kernel_rfl
  obtain ⟨c0, c1, c2, c3, rfl⟩ := lists4 (hl.trans (by kernel_rfl : _ = 4)); simp only [k0, k1, List.drop_zero, List.drop_succ_cons, List.take_succ_cons, List.take_zero] at z0 z1 z2 z3; obtain ⟨i0, e0⟩ := int_cell z0; obtain ⟨i1, e1⟩ := int_cell z1; obtain ⟨i2, e2⟩ := int_cell z2; have hf1 : Fits Try.prog 56 y3.1 := fun k hk => hf k (by
    simp only [DataW.weights, Try.underlying58, List.map_cons, List.map_nil, DataW.weightsEach, List.mem_append]; exact .inr (.inr (.inr (.inl hk))))
  have hv : ∃ A n c, c3 = .slice A n c := by
    rcases open_ints Try.underlying56 Try.underlying3 (by kernel_rfl) z3 with ⟨hcs, _⟩ | ⟨a, len, cap, zs, hcs, _⟩
    · exact ⟨none, 0, 0, by simpa using hcs⟩
    · exact ⟨some a, len, cap, by simpa using hcs⟩
  obtain ⟨A, n, c, rfl⟩ := hv; obtain ⟨zs, hz, hlb⟩ := opened_nums Try.underlying56 Try.underlying3 (by kernel_rfl) (by kernel_rfl) z3 hf1; simp only [List.cons.injEq, and_true] at e0 e1 e2; subst e0 e1 e2; have hr := rde_nums hz; obtain rfl := hr.len; exact ⟨⟨i0, i1, i2, zs⟩, ⟨A, c, rfl, hr⟩, hlb⟩
theorem RdE.both {α : Type} {E : ElP α} {p : α → Prop} {size B n c : Nat} {A : Option Addr} {l : List α} (h : RdE (fun w B x cs => E w B x cs ∧ p x) size w B A n c l) : RdE E size w B A n c l ∧ ∀ x ∈ l, p x := by
  refine ⟨⟨h.len, h.cap, h.big, fun hn => ?_⟩, fun x hx => ?_⟩
  · obtain ⟨b, off, e, hB, hb, hc⟩ := h.at_ hn; refine ⟨b, off, e, hB, hb, fun j x hx => ?_⟩; obtain ⟨cs, h1, h2⟩ := hc j x hx; exact ⟨cs, h1.1, h2⟩
  · obtain ⟨j, hj, rfl⟩ := List.getElem_of_mem hx; obtain ⟨b, off, e, hB, hb, hc⟩ := h.at_ (by rw [← h.len]; omega); obtain ⟨cs, h1, _⟩ := hc j _ (List.getElem?_eq_getElem hj); exact h1.2
/-- any slice's cell -/
theorem slice_cell {t e : TypeId} {fuel : Nat} {v : Value} {x : DataW H × List MemPlace} (ht : Try.prog.underlying t = some (.slice e)) (h : DataW.trod enc Try.prog w base (fun _ => true) held fuel t [v] = some x) : ∃ A n c, v = .slice A n c := by
  rcases Go.Deep.open_slice ht h with ⟨hcs, _⟩ | ⟨a, len, cap, m, n1, D, Pl, hcs, _⟩
  · exact ⟨none, 0, 0, by simpa using hcs⟩
  · exact ⟨some a, len, cap, by simpa using hcs⟩
set_option maxRecDepth 100000 in
theorem opened_state {v : Value} {d : DataW H} {p : List MemPlace} (hv : Value.okWide Try.prog w r base 26 v) (h : DataW.Trod enc Try.prog w 0 (fun _ => true) held 26 v d p) (hf : Fits Try.prog 26 d) :
    ∃ (s : St) (x : Sv), v = stv s x ∧ RdS w 0 x s ∧ s.nx.length * 16 ≤ 140737488351232 ∧ s.hd.length * 56 ≤ 140737488351232 ∧ s.sn.length * 48 ≤ 140737488351232 ∧ (∀ m ∈ s.hd, m.l.length ≤ 140737488351232) ∧ ∀ m ∈ s.sn, m.m.length * 8 ≤ 140737488351232 := by
  obtain ⟨cs, rfl, hs⟩ := okWide_struct Try.underlying26 hv; obtain ⟨m, hm⟩ := h; obtain ⟨xs, n, _, hx, hl, hlen, hfl⟩ := DataW.trod_struct Try.underlying26 hm; obtain ⟨y0, y1, y2, y3, y4, rfl⟩ := lists5 hlen; simp only [Prod.mk.injEq] at hx; obtain ⟨rfl, _⟩ := hx; obtain ⟨l⟩ := cs; obtain ⟨c0, c1, c2, c3, c4, rfl⟩ := lists5 (hl.trans (by kernel_rfl : _ = 5)); have k0 : Try.prog.cellsOf 3 = 1 := by kernel_rfl
  have k1 : Try.prog.cellsOf 22 = 1 := by kernel_rfl
  have k2 : Try.prog.cellsOf 23 = 1 := by kernel_rfl
  have k3 : Try.prog.cellsOf 24 = 1 := by kernel_rfl
  have z0 := hfl 0 _ rfl; have z1 := hfl 1 _ rfl; have z2 := hfl 2 _ rfl; have z3 := hfl 3 _ rfl; have z4 := hfl 4 _ rfl
  change DataW.trod enc Try.prog w 0 (fun _ => true) held n 3 [c0] = some y0 at z0
  change DataW.trod enc Try.prog w 0 (fun _ => true) held n 3 [c1] = some y1 at z1
  change DataW.trod enc Try.prog w 0 (fun _ => true) held n 22 [c2] = some y2 at z2
  change DataW.trod enc Try.prog w 0 (fun _ => true) held n 23 [c3] = some y3 at z3
  change DataW.trod enc Try.prog w 0 (fun _ => true) held n 24 [c4] = some y4 at z4
  obtain ⟨i0, e0⟩ := int_cell z0; obtain ⟨i1, e1⟩ := int_cell z1; simp only [List.cons.injEq, and_true] at e0 e1; subst e0 e1; obtain ⟨A1, n1, q1, rfl⟩ := slice_cell Try.underlying22 z2; obtain ⟨A2, n2, q2, rfl⟩ := slice_cell Try.underlying23 z3; obtain ⟨A3, n3, q3, rfl⟩ := slice_cell Try.underlying24 z4; have hw : ∀ (t : TypeId) (y : DataW H), (∃ i : Nat, [3, 3, 22, 23, 24][i]? = some t ∧ [y0.1, y1.1, y2.1, y3.1, y4.1][i]? = some y) → Fits Try.prog t y := fun t y ⟨i, h1, h2⟩ k hk => hf k (by
    have := DataW.weights_mem_each (P := Try.prog) h1 h2 k hk
    simpa only [DataW.weights, Try.underlying26, List.map_cons, List.map_nil] using this)
  obtain ⟨l1, r1, n1b⟩ := opened_rde (E := ENx) (size := 2) (bytes := 16) Try.underlying22 (by kernel_rfl) (by omega) (by kernel_rfl) (by omega) (fun _ _ _ _ h _ => open_nx h) z2 (hw _ _ ⟨2, rfl, rfl⟩); obtain ⟨l2, r2, n2b⟩ := opened_rde (E := fun w B (x : Ms) cs => EMs w B x cs ∧ x.l.length ≤ 140737488351232) (size := 5) (bytes := 56) Try.underlying23 (by kernel_rfl) (by omega) (by kernel_rfl) (by omega) (fun _ _ _ _ h hf => open_ms h hf) z3 (hw _ _ ⟨3, rfl, rfl⟩); obtain ⟨l3, r3, n3b⟩ := opened_rde (E := fun w B (x : Mk) cs => EMk w B x cs ∧ x.m.length * 8 ≤ 140737488351232) (size := 4) (bytes := 48) Try.underlying24 (by kernel_rfl) (by omega) (by kernel_rfl) (by omega) (fun _ _ _ _ h hf => open_mk h hf) z4 (hw _ _ ⟨4, rfl, rfl⟩); obtain ⟨r2, b2⟩ := r2.both; obtain ⟨r3, b3⟩ := r3.both; exact ⟨⟨i0, i1, l1, l2, l3⟩, ⟨A1, n1, q1, A2, n2, q2, A3, n3, q3⟩, rfl, ⟨r1, r2, r3⟩, by rw [r1.len]; exact n1b, by rw [r2.len]; exact n2b, by rw [r3.len]; exact n3b, b2, b3⟩
end
end Go.Proofs.Ytcnlgcmooegfkaa
