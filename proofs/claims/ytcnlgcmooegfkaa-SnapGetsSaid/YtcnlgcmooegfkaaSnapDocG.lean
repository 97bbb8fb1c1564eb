/-
  THE ARGUMENTS OPENED: what a reading of bytes, of lists of bytes, of a number says in the walks' own words.
  A STATE IN NEW MEMORY: the document's copies.
  THE DOCUMENT's GET OF A STATE: numbers out of bytes, a place in them.
  THE DOCUMENT's GET OF A STATE: what it reads, in plain Lean, is the same state.
  THE DOCUMENT's GET OF A STATE: the counters.
  THE DOCUMENT's GET OF A STATE: the messages.
  THE DOCUMENT's GET OF A STATE: the marks.
  THE DOCUMENT's GET OF A STATE.
  SnapGets.
-/
import Derived.Test.YtcnlgcmooegfkaaMem
import Derived.ProofKit
import Derived.OpenShut
import Derived.ShutString
import Derived.ChangeOld
import Derived.SizedLaws
import Derived.Deep.Slices
import Derived.Deep.CondSized
import Derived.Test.YtcnlgcmooegfkaaSnapGet
import Derived.Test.YtcnlgcmooegfkaaSnapDocC
namespace Go.Proofs.Ytcnlgcmooegfkaa
open Go.ChangeShapes Go.WideShapes Go.ChangeAt Go.RowKit

/-- every weight of a datum is within the form's reach -/
def Fits {H : Type} (P : Program) (t : TypeId) (d : DataW H) : Prop := ∀ n ∈ d.weights P t, n ≤ reachBytes

theorem fits_of {H : Type} {P : Program} {ts : List TypeId} {ds : List (DataW H)} (h : (DataW.weightsEach P ts ds).all (· ≤ reachBytes) = true) (j : Nat) {t : TypeId} {d : DataW H} (ht : ts[j]? = some t) (hd : ds[j]? = some d) : Fits P t d := by
  intro n hn; have := List.all_eq_true.1 h n (DataW.weights_mem_each ht hd n hn)
  simpa using this

theorem byte_of {z : Int} (h0 : 0 ≤ z) (h1 : z ≤ 255) : z = ((UInt8.ofNat z.toNat).toNat : Int) := by
  have h2 : (UInt8.ofNat z.toNat).toNat = z.toNat := by
    rw [UInt8.toNat_ofNat']; exact Nat.mod_eq_of_lt (by omega)
  rw [h2]; omega

section
variable {H : Type} {enc : TypeId × Value → H} {P : Program} {w : World} {base : Nat} {held : Bool}

theorem opened_bytes {t e : TypeId} {fuel : Nat} {A : Option Addr} {n c : Nat} {d : DataW H} {p : List MemPlace} (ht : P.underlying t = some (.slice e)) (he : P.underlying e = some (.int .u8)) (hc : P.cellsOf e = 1) (hby : P.bytesOf e = 1)
    (h : DataW.trod enc P w base (fun _ => true) held fuel t [.slice A n c] = some (d, p)) (hf : Fits P t d) :
    ∃ l : List UInt8, Rd w A n c l ∧ n ≤ 140737488351232 ∧ Rows.uptoBulk d ≥ n + 1 := by
  rcases open_ints ht he hc h with ⟨hcs, hx⟩ | ⟨a, len, cap, zs, hcs, _, hl, hm, hz, hx, hcell, hwz⟩
  · simp only [List.cons.injEq, Value.slice.injEq, and_true] at hcs; obtain ⟨rfl, rfl, rfl⟩ := hcs; simp only [Prod.mk.injEq] at hx; obtain ⟨rfl, _⟩ := hx; exact ⟨[], Rd.nil _ _ _, by omega, by simp [Rows.uptoBulk]⟩
  · simp only [List.cons.injEq, Value.slice.injEq, and_true] at hcs; obtain ⟨rfl, rfl, rfl⟩ := hcs; simp only [Prod.mk.injEq] at hx; obtain ⟨rfl, _⟩ := hx; have hz' : zs.length = c := by simpa using hz
    have hw := hf ((n + (c - n)) * 1) (by simp [DataW.weights, ht, hby, lits, hz']; omega); have hn : n ≤ 140737488351232 := by simp only [reachBytes] at hw; omega
    have key : ∀ i, i < zs.length → ∃ x : UInt8, (zs.getD i 0) = (x.toNat : Int) := by
      intro i hi; have hmem : zs.getD i 0 ∈ zs := by
        have : zs.getD i 0 = zs[i] := by simp [List.getD, hi]
        rw [this]; exact List.getElem_mem hi
      have hwf := hwz _ hmem; have hb : 0 ≤ zs.getD i 0 ∧ zs.getD i 0 ≤ 255 := bounds_u8 hwf; exact ⟨_, byte_of hb.1 hb.2⟩
    refine ⟨(zs.take n).map fun z => UInt8.ofNat z.toNat, ⟨by simp; omega, hl, by omega, fun hp => ?_⟩, hn, ?_⟩
    · obtain ⟨b, off, spot⟩ := a; have hc0 := hcell 0 (by omega); have hspot : spot = none := by simpa [Addr.add] using World.cell?_spot hc0
      subst hspot; have e0 : (⟨b, off, none⟩ : Addr).add 0 = ⟨b, off, none⟩ := rfl; rw [e0] at hc0; refine ⟨b, off, rfl, World.block_lt_of_cell? w _ hc0, fun j x hx => ?_⟩; have hj : j < n := by
        have := (List.getElem?_eq_some_iff.1 hx).1; simp at this; omega
      have hcj := hcell j (by omega); rw [add_none] at hcj; rw [hcj]; obtain ⟨y, hy⟩ := key j (by omega); have hx2 : x = UInt8.ofNat (zs.getD j 0).toNat := by
        simp only [List.getElem?_map, Option.map_eq_some_iff] at hx; obtain ⟨z, hz1, rfl⟩ := hx; rw [List.getElem?_take, if_pos hj] at hz1; rw [List.getD_eq_getElem?_getD, hz1]; rfl
      have hy2 : x.toNat = y.toNat := by
        rw [hx2, hy]; simp
      rw [hy, ← hy2]
    · have hlen : ∀ (k : IntKind) (l : List Int), Rows.uptoBulkAll (lits (H := H) k l) = l.length := by
        intro k l
        induction l with
        | nil => rfl
        | cons z l ih => simp only [lits, List.map_cons, Rows.uptoBulkAll, List.length_cons] at ih ⊢; rw [ih]; simp [Rows.uptoBulk]; omega
      simp only [Rows.uptoBulk, hlen, List.length_take, List.length_drop]; omega

theorem opened_bytes' {t e : TypeId} {fuel : Nat} {v : Value} {d : DataW H} {p : List MemPlace} (ht : P.underlying t = some (.slice e)) (he : P.underlying e = some (.int .u8)) (hc : P.cellsOf e = 1) (hby : P.bytesOf e = 1)
    (h : DataW.trod enc P w base (fun _ => true) held fuel t [v] = some (d, p)) (hf : Fits P t d) :
    ∃ (A : Option Addr) (n c : Nat) (l : List UInt8), v = .slice A n c ∧ Rd w A n c l ∧ n ≤ 140737488351232 ∧ Rows.uptoBulk d ≥ n + 1 := by
  have hv : ∃ A n c, v = .slice A n c := by
    rcases open_ints ht he hc h with ⟨hcs, _⟩ | ⟨a, len, cap, zs, hcs, _⟩
    · exact ⟨none, 0, 0, by simpa using hcs⟩
    · exact ⟨some a, len, cap, by simpa using hcs⟩
  obtain ⟨A, n, c, rfl⟩ := hv; obtain ⟨l, h1, h2, h3⟩ := opened_bytes ht he hc hby h hf; exact ⟨A, n, c, l, rfl, h1, h2, h3⟩

theorem bulkAll_append (l r : List (DataW H)) : Rows.uptoBulkAll (l ++ r) = Rows.uptoBulkAll l + Rows.uptoBulkAll r := by
  induction l with
  | nil => simp [Rows.uptoBulkAll]
  | cons x l ih => simp only [List.cons_append, Rows.uptoBulkAll, ih]; omega

theorem weightsAll_mem (e : TypeId) {l : List (DataW H)} {d : DataW H} (hd : d ∈ l) {n : Nat} (hn : n ∈ d.weights P e) : n ∈ DataW.weightsAll P e l := by
  induction l with
  | nil => cases hd
  | cons x l ih =>
    simp only [DataW.weightsAll, List.mem_append]
    rcases List.mem_cons.1 hd with rfl | hd
    · exact .inl hn
    · exact .inr (ih hd)

/-- a family of lists, its lengths against a family of bulks -/
theorem flat_bulk (L : Nat → List UInt8) (D : Nat → DataW H) : ∀ n, (∀ i, i < n → (L i).length + 1 ≤ Rows.uptoBulk (D i)) →
    ((List.range n).map L).flatten.length + n ≤ Rows.uptoBulkAll ((List.range n).map D)
  | 0, _ => by simp
  | n + 1, h => by
    have ih := flat_bulk L D n (fun i hi => h i (by omega)); have h1 := h n (by omega); rw [List.range_succ, List.map_append, List.map_append, bulkAll_append, List.flatten_append, List.length_append]; simp only [List.map_cons, List.map_nil, List.flatten_cons, List.flatten_nil, List.append_nil, Rows.uptoBulkAll]; omega

theorem opened_lists {t e e' : TypeId} {fuel : Nat} {A : Option Addr} {n c : Nat} {d : DataW H} {p : List MemPlace} (ht : P.underlying t = some (.slice e)) (he : P.underlying e = some (.slice e')) (he' : P.underlying e' = some (.int .u8))
    (hc : P.cellsOf e = 1) (hc' : P.cellsOf e' = 1) (hby : P.bytesOf e = 24) (hby' : P.bytesOf e' = 1)
    (h : DataW.trod enc P w base (fun _ => true) held fuel t [.slice A n c] = some (d, p)) (hf : Fits P t d) :
    ∃ ls : List (List UInt8), RdL w A n c ls ∧ n * 24 ≤ 140737488351232 ∧ (∀ l ∈ ls, l.length ≤ 140737488351232) ∧ ls.flatten.length + n + 1 ≤ Rows.uptoBulk d := by
  rcases Go.Deep.open_slice1 ht hc h with ⟨hcs, hx⟩ | ⟨a, len, cap, m, n1, V, D, Pl, hcs, _, hl, hm, hz, hx, hcell⟩
  · simp only [List.cons.injEq, Value.slice.injEq, and_true] at hcs; obtain ⟨rfl, rfl, rfl⟩ := hcs; simp only [Prod.mk.injEq] at hx; obtain ⟨rfl, _⟩ := hx; exact ⟨[], ⟨rfl, Nat.le_refl _, by omega, fun h => absurd h (by omega)⟩, by omega, by simp, by simp [Rows.uptoBulk]⟩
  · simp only [List.cons.injEq, Value.slice.injEq, and_true] at hcs; obtain ⟨rfl, rfl, rfl⟩ := hcs; simp only [Prod.mk.injEq] at hx; obtain ⟨rfl, _⟩ := hx; have hz' : m = c := by simpa using hz
    subst hz'; have hw := hf ((n + (m - n)) * 24) (by simp [DataW.weights, ht, hby]); have hn : n * 24 ≤ 140737488351232 := by simp only [reachBytes] at hw; omega
    have hfi : ∀ i, i < n → Fits P e (D i) := fun i hi k hk => hf k (by
      simp only [DataW.weights, ht, List.mem_cons, List.mem_append]; exact .inr (.inl (weightsAll_mem e (List.mem_map.2 ⟨i, List.mem_range.2 hi, rfl⟩) hk)))
    obtain ⟨L, hL⟩ := Go.Deep.choose_lt (α := List UInt8) (n := n) (p := fun i l => ∃ (A' : Option Addr) (n' c' : Nat), w.cell? (a.add i) = some (.slice A' n' c') ∧ Rd w A' n' c' l ∧ l.length ≤ 140737488351232 ∧ l.length + 1 ≤ Rows.uptoBulk (D i)) (fun i hi => by
      obtain ⟨h1, h2⟩ := hcell i (by omega); obtain ⟨A', n', c', l, hv, hr, hb, hu⟩ := opened_bytes' he he' hc' hby' h2 (hfi i hi); rw [hv] at h1; exact ⟨l, A', n', c', h1, hr, by rw [hr.len]; exact hb, by rw [hr.len]; exact hu⟩)
    refine ⟨(List.range n).map L, ⟨by simp, hl, by omega, fun hp => ?_⟩, hn, ?_, ?_⟩
    · obtain ⟨b, off, spot⟩ := a; obtain ⟨_, _, _, hc0, _⟩ := hL 0 (by omega); have hspot : spot = none := by simpa [Addr.add] using World.cell?_spot hc0
      subst hspot; rw [show (⟨b, off, none⟩ : Addr).add 0 = ⟨b, off, none⟩ from rfl] at hc0; refine ⟨b, off, rfl, World.block_lt_of_cell? w _ hc0, fun j l hj => ?_⟩; have hjn : j < n := by
        have := (List.getElem?_eq_some_iff.1 hj).1
        simpa using this
      obtain ⟨A', n', c', hcj, hr, _⟩ := hL j hjn; rw [add_none] at hcj; have : L j = l := by simpa [hjn] using hj
      exact ⟨A', n', c', hcj, this ▸ hr⟩
    · intro l hl'; obtain ⟨i, hi, rfl⟩ := List.mem_map.1 hl'; obtain ⟨_, _, _, _, _, hb, _⟩ := hL i (List.mem_range.1 hi); exact hb
    · have hfb := flat_bulk L D n (fun i hi => by obtain ⟨_, _, _, _, _, _, hu⟩ := hL i hi; exact hu); simp only [Rows.uptoBulk]; omega
end

theorem nat_u16 {x : Int} (h : (Lit.int .u16 x).wf = true) : ∃ n : Nat, x = (n : Int) ∧ n < 65536 := by
  have := bounds_u16 h; exact ⟨x.toNat, by omega, by omega⟩
theorem nat_u32 {x : Int} (h : (Lit.int .u32 x).wf = true) : ∃ n : Nat, x = (n : Int) ∧ n < 4294967296 := by
  have := bounds_u32 h; exact ⟨x.toNat, by omega, by omega⟩
theorem byte_u8 {x : Int} (h : (Lit.int .u8 x).wf = true) : ∃ b : UInt8, x = (b.toNat : Int) := by
  have := bounds_u8 h; exact ⟨_, byte_of this.1 this.2⟩
theorem own_knob : ownKnob Try.prog.godebug = none := by kernel_rfl
theorem laid_out : laidOutB Try.prog = true := by kernel_rfl
end Go.Proofs.Ytcnlgcmooegfkaa
namespace Go.Proofs.Ytcnlgcmooegfkaa
open Go.RowKit Mg Sn

theorem own_emp {w : World} {B p : Nat} {e : TypeId} {size : Nat} (h : w.heap[p]? = some (.cells #[] e (0, 0))) (hB : B ≤ p) : w.ownsRow B e size (.slice (some ⟨p, 0, none⟩) 0 0) 0 [] :=
  ⟨by simp, .inr ⟨p, 0, #[], rfl, hB, h, Nat.le_refl _, by unfold maxLen; omega, by simp, by simp⟩⟩
/-- an append onto an empty row, of elements of any size: nothing that was there is written -/
theorem run_appn {P : Program} (w : World) {t e : TypeId} {z : Value} {size bytes : Nat} (hE : ElemOf P t e z size bytes) (ty : TypeId) {B p : Nat} (hg : w.heap[p]? = some (.cells #[] e (0, 0))) (hB : B ≤ p)
    {A : Option Addr} {m : Nat} (c : Nat) {news : List Value} (hs : Src w A m size news) (hb : m * bytes ≤ 140737488355328) :
    ∃ A' c' w', (Builtin.append_ #[t, t] ty #[.slice (some ⟨p, 0, none⟩) 0 0, .slice A m c]).run P w = .ok (.slice A' m c') w' ∧ w'.ownsRow B e size (.slice A' m c') m news ∧ Below w.heap.size w w' := by
  obtain ⟨i, hi, hz, hsz, hby⟩ := info_parts hE.info; have hlt := (Array.getElem?_eq_some_iff.1 hg).1
  rcases Nat.eq_zero_or_pos m with h0 | h0
  · subst h0; have hn : news = [] := List.eq_nil_of_length_eq_zero (by have := hs.len; omega); subst hn; refine ⟨_, _, w, ?_, own_emp hg hB, Below.refl _ _⟩
    cases A with
    | none => simp [Builtin.append_, run_underlying hE.ht, sizeOf, typeInfo, hi, Builtin.lenOf, Builtin.firstCells, storeCells]
    | some ad =>
      have hf := run_firstCells_some (P := P) w i.size 0 ad 0 c [] (by simp) (by intro j u hu; simp at hu); simp [Builtin.append_, run_underlying hE.ht, sizeOf, typeInfo, hi, Builtin.lenOf, hf, storeCells]
  · obtain ⟨ad, rfl, hc⟩ := hs.at_ h0; have h63 : 0 + m ≤ maxLen := by
      have := Nat.le_mul_of_pos_right m hE.wide; unfold maxLen; omega
    obtain ⟨v', w', hrun, r1, r2⟩ := run_append_arg_grows (P := P) w t ty e i z size bytes hE.ht hi hz hsz hby hE.zs hE.pos ⟨p, 0, none⟩ 0 0 [] (by simp) (by intro j u hu; simp at hu) ad m c news hs.len hc (by omega) h63 (by simpa using hb); simp only [Nat.zero_add, List.nil_append] at hrun r1; have hform : ∃ A' c', v' = .slice A' m c' := by
      rcases r1.2 with ⟨rfl, h⟩ | ⟨g, cap, cur, rfl, _⟩
      · exact ⟨none, 0, by rw [h]⟩
      · exact ⟨_, _, rfl⟩
    obtain ⟨A', c', rfl⟩ := hform; exact ⟨A', c', w', hrun, row_base6 r1 (by omega), ⟨r2.os, r2.tape, r2.output, r2.size, fun k hk => r2.block k hk (by simp)⟩⟩
/-- one more -/
theorem run_more {α : Type} {E : ElP α} {size bytes : Nat} {T t : TypeId} {z : Value} (hEl : ElemOf Try.prog t T z size bytes) (hS : StaysX E T) (w : World) (ty : TypeId) {B : Nat} {A2 : Option Addr} {j c2 : Nat} {hd : List α} {x : α} {cs : List Value}
    (hO : OwnE E size T w B (.slice A2 j c2) hd) (hn : hd.length = j) (hx : E w B x cs) (hcs : cs.length = size) (hq : B ≤ w.heap.size) (hb : (j + 1) * bytes ≤ 140737488355328) {A : Option Addr} {c : Nat} (hsrc : Src w A 1 size cs) :
    ∃ A7 c7 w7, (Builtin.append_ #[t, t] ty #[.slice A2 j c2, .slice A 1 c]).run Try.prog w = .ok (.slice A7 (j + 1) c7) w7 ∧ OwnE E size T w7 B (.slice A7 (j + 1) c7) (hd ++ [x]) ∧ w.grownBy w7 (Value.ownBlock (.slice A2 j c2)) := by
  obtain ⟨xs, h1, h2⟩ := hO; subst hn; obtain ⟨A7, c7, w7, hr, ho, hg, _⟩ := run_app (P := Try.prog) w hEl ty h1 c hsrc (N := hd.length + 1) rfl hb hq; exact ⟨A7, c7, w7, hr, OwnE.snoc hS h1 h2 hx hcs hg ho, hg⟩
theorem OwnE.emp {α : Type} {E : ElP α} {size : Nat} {w : World} {B p : Nat} {e : TypeId} (h : w.heap[p]? = some (.cells #[] e (0, 0))) (hB : B ≤ p) : OwnE E size e w B (.slice (some ⟨p, 0, none⟩) 0 0) [] :=
  ⟨[], own_emp h hB, fun j x h => by simp at h⟩

theorem OwnE.base {α : Type} {E : ElP α} {size : Nat} {T : TypeId} {w : World} {B B' : Nat} {v : Value} {l : List α} (hE : Lower E) (h : OwnE E size T w B v l) (hB : B' ≤ B) : OwnE E size T w B' v l := by
  obtain ⟨xs, h1, h2⟩ := h; refine ⟨xs, row_base6 h1 hB, fun j x hj => ?_⟩; obtain ⟨cs, h3, h4⟩ := h2 j x hj; exact ⟨cs, hE _ _ _ _ _ hB h3, h4⟩
theorem lower_mso : Lower EMsO := fun _ _ _ _ _ hB ⟨A, c, e, h, hb⟩ => ⟨A, c, e, h.base fun k hk => Nat.le_trans hB (h.lt k hk).1, hb⟩
theorem lower_mko : Lower EMkO := fun _ _ _ _ _ hB ⟨A, c, e, h, hb⟩ => ⟨A, c, e, row_base6 h hB, hb⟩
/-! ### counters -/
def nxc (l : List Nx) : List Value := l.flatMap fun x => [.int .i64 x.d, .int .i64 x.c]
theorem nxc_at : ∀ {l : List Nx} {j : Nat} {x : Nx}, l[j]? = some x → (nxc l)[j * 2]? = some (.int .i64 x.d) ∧ (nxc l)[j * 2 + 1]? = some (.int .i64 x.c)
  | y :: r, 0, x, h => by
    obtain rfl : y = x := by simpa using h
    exact ⟨rfl, rfl⟩
  | y :: r, j + 1, x, h => by
    have := nxc_at (l := r) (j := j) (x := x) (by simpa using h); have e : nxc (y :: r) = .int .i64 y.d :: .int .i64 y.c :: nxc r := rfl; rw [e, show (j + 1) * 2 = j * 2 + 1 + 1 by omega, show j * 2 + 1 + 1 + 1 = (j * 2 + 1) + 1 + 1 by omega]
    simpa using this
theorem nxc_len (l : List Nx) : (nxc l).length = l.length * 2 := by
  induction l with
  | nil => rfl
  | cons x r ih => show (nxc r).length + 1 + 1 = _; rw [ih, List.length_cons]; omega
theorem nxc_one (l : List Nx) : ∀ u ∈ nxc l, u.oneCell' = true := fun u hu => by
  simp only [nxc, List.mem_flatMap] at hu; obtain ⟨x, _, hx⟩ := hu; simp at hx
  rcases hx with rfl | rfl <;> rfl
theorem src_nx {w : World} {B : Nat} {A : Option Addr} {n c : Nat} {l : List Nx} (h : RdE ENx 2 w B A n c l) : Src w A n 2 (nxc l) :=
  ⟨by rw [nxc_len, h.len], fun hn => by
    obtain ⟨b, off, e, _, _, hc⟩ := h.at_ hn; refine ⟨_, e, fun j u hu => ?_⟩; rw [add_none]; have hlt := (List.getElem?_eq_some_iff.1 hu).1; rw [nxc_len] at hlt; have hx := List.getElem?_eq_getElem (l := l) (i := j / 2) (by omega); obtain ⟨cs, h1, _, h3⟩ := hc _ _ hx; obtain ⟨k0, k1⟩ := nxc_at hx; unfold ENx at h1; subst h1
    rcases Nat.mod_two_eq_zero_or_one j with h2 | h2
    · rw [show j = j / 2 * 2 by omega, k0] at hu; rw [show off + j = off + j / 2 * 2 + 0 by omega]; exact h3 0 u hu
    · rw [show j = j / 2 * 2 + 1 by omega, k1] at hu; rw [show off + j = off + j / 2 * 2 + 1 by omega]; exact h3 1 u hu, nxc_one l⟩
theorem own_nx {w : World} {B : Nat} {T : TypeId} {v : Value} {n : Nat} {l : List Nx} (hl : l.length = n) (h : w.ownsRow B T 2 v n (nxc l)) : OwnE ENx 2 T w B v l :=
  ⟨nxc l, by rw [hl]; exact h, fun j x hx => ⟨_, rfl, rfl, fun i u hu => by
    obtain ⟨k0, k1⟩ := nxc_at hx
    match i, hu with
    | 0, hu => exact k0.trans hu
    | 1, hu => exact k1.trans hu⟩⟩

set_option maxRecDepth 100000 in
set_option maxHeartbeats 4000000 in
theorem rcopy_any (A : Option Addr) (n c B : Nat) (l : List Ms) (w : World) (hR : RdE EMs 5 w B A n c l) (hn : n * 56 ≤ 140737488351232) (hl : ∀ m ∈ l, m.l.length ≤ 140737488351232) :
    Calls Try.prog 19 #[.slice A n c] w fun e w' => ∃ A' c', e = .returned (.slice A' n c') ∧ OwnE EMsO 5 54 w' w.heap.size (.slice A' n c') l ∧ Below w.heap.size w w' := by
  have HR := Lib.hid hR; have HLN := Lib.hid hR.len; have HL := Lib.hid hl; clear hR hl
  go_enter Try.func19, Try.ntmps19
  go_wp2_with fail
  have hO0 : OwnE EMsO 5 54 (w.alloc (.cells #[] 54)) w.heap.size (.slice (some ⟨w.heap.size, 0, none⟩) 0 0) [] := OwnE.emp (heap_alloc_new w _) (Nat.le_refl _); have hB0 : Below w.heap.size w (w.alloc (.cells #[] 54)) := (Below.refl _ _).alloc (Nat.le_refl _) _; have HO0 := Lib.hid hO0; have HB0 := Lib.hid hB0; clear hO0 hB0
  go_loopw [3, 4] (fun o i wr => ∃ (k : Nat) (A2 : Option Addr) (c2 : Nat), i = .int .i64 k ∧ k ≤ n ∧ o = .slice A2 k c2 ∧ Hid (OwnE EMsO 5 54 wr w.heap.size (.slice A2 k c2) (l.take k) ∧ Below w.heap.size w wr)) (fun _ i _ => n - (intOf i).toNat)
  case atStart => exact ⟨0, _, 0, rfl, Nat.zero_le _, rfl, by rw [List.take_zero]; exact HO0.out, HB0.out⟩
  case round =>
    obtain ⟨k, A2, c2, rfl, hk, rfl, ho, hb⟩ := hrel; have HO := Lib.hid ho; have HB := Lib.hid hb; have hws := hb.size; clear ho hb
    by_cases hlt : k < n
    · obtain ⟨b, off, x, cs, rfl, _, hbw, hx, ⟨A5, c5, rfl, hrd⟩, _, hcell⟩ := HR.out.at' hlt; have hxl := HL.out x (List.mem_of_getElem? hx); have HT : Hid (l.take k ++ [x] = l.take (k + 1)) := by
        show _ = _
        rw [List.take_add_one, hx]; rfl
      have hbl : b < wr.heap.size := by omega
      have c0 := (HB.out.cell (p := ⟨b, off + k * 5, none⟩) hbw).trans (hcell 0 _ rfl); have c1 := (HB.out.cell (p := ⟨b, off + k * 5 + 1, none⟩) hbw).trans (hcell 1 _ rfl); have c2' := (HB.out.cell (p := ⟨b, off + k * 5 + 2, none⟩) hbw).trans (hcell 2 _ rfl); have c3 := (HB.out.cell (p := ⟨b, off + k * 5 + 3, none⟩) hbw).trans (hcell 3 _ rfl); have c4 := (HB.out.cell (p := ⟨b, off + k * 5 + 4, none⟩) hbw).trans (hcell 4 _ rfl); have HD := Lib.hid (hrd.1.below HB.out); have HL2 := Lib.hid HO.out.lt; have hnb : ¬ Value.ownBlock (.slice A2 k c2) = some b := fun e => by have := (HL2.out b e).1; omega
      have hkb : k < 281474976710656 := by omega
      have HLK : Hid ((l.take k).length = k) := by show _ = _; rw [List.length_take, HLN.out]; omega
      obtain ⟨⟨xo, xd, xe, xc⟩, xl⟩ := x; simp only at c0 c1 c2' c3 c4 HD hxl; obtain ⟨m, hm⟩ : ∃ m, m = xl.length := ⟨_, rfl⟩; rw [← hm] at c4 HD hxl; have HM := Lib.hid hm; clear hcell hx hrd hm
      go_wp2_with fail
      refine Free.wp_seq3 (I := fun L w' => Kept (fun q => Value.ownBlock (.slice A2 k c2) = some q) wr w' ∧ (L 15 = false → Below wr.heap.size wr w')) (Gr := fun j x y => Kept (fun q => Value.ownBlock (.slice A2 k c2) = some q ∧ j = 15) x y) (by kernel_rfl) (by kernel_rfl) ⟨(Kept.refl _ _).drew, fun _ => (Below.refl _ _).drew⟩ ?_; refine Free.Seq3.val ?_ (fun _ => Kept.refl _ _) (fun _ _ h => h) (fun a w1 L hI hp => ?_) ?_; rotate_left
      · have e3 := hp.sl 3; simp at e3; refine ⟨Free.wn, ?_⟩; clear hp; go_simp; rfl
      refine Free.Seq3.val ?_ (fun _ => Kept.refl _ _) (fun _ _ h => h) (fun a w1 L hI hp => ?_) ?_; rotate_left
      · have e0 := hp.sl 0; simp at e0; refine ⟨Free.wn, ?_⟩; clear hp; go_simp; rfl
      refine Free.Seq3.val ?_ (fun _ => Kept.refl _ _) (fun _ _ h => h) (fun a w1 L hI hp => ?_) ?_; rotate_left
      · have e4 := hp.sl 4; simp at e4; refine ⟨Free.wn, ?_⟩; clear hp; go_simp; rfl
      refine Free.Seq3.val ?_ (fun _ => Kept.refl _ _) (fun _ _ h => h) (fun a w1 L hI hp => ?_) ?_; rotate_left
      · have e13 := hp.b 1 1; have e14 := hp.b 2 0; refine ⟨Free.wn, ?_⟩; clear hp; go_simp; rfl
      refine Free.Seq3.val ?_ (fun _ => Kept.refl _ _) (fun _ _ h => h) (fun a w1 L hI hp => ?_) ?_; rotate_left
      · have e15 := hp.b 3 0; refine ⟨Free.wn, ?_⟩; clear hp; go_simp; rfl
      refine Free.Seq3.val ?_ (fun _ => Kept.refl _ _) (fun _ _ h => h) (fun a w1 L hI hp => ?_) ?_; rotate_left
      · have e16 := hp.b 4 0; have kc0 := (World.cell?_of_block (w := wr) (a := ⟨b, off + k * 5, none⟩) (hI.1.block b hbl hnb)).trans c0; have kc1 := (World.cell?_of_block (w := wr) (a := ⟨b, off + k * 5 + 1, none⟩) (hI.1.block b hbl hnb)).trans c1; have kc2 := (World.cell?_of_block (w := wr) (a := ⟨b, off + k * 5 + 2, none⟩) (hI.1.block b hbl hnb)).trans c2'; have kc3 := (World.cell?_of_block (w := wr) (a := ⟨b, off + k * 5 + 3, none⟩) (hI.1.block b hbl hnb)).trans c3; refine ⟨Free.wn, ?_⟩; clear hp; go_simp; rfl
      refine Free.Seq3.op (T := fun v w' => ∃ p, v = .slice (some ⟨p, 0, none⟩) 0 0 ∧ wr.heap.size ≤ p ∧ w'.heap[p]? = some (.cells #[] 5 (0, 0))) (fun j hj hr v x y ⟨p, e, h1, h2⟩ hg => ⟨p, e, h1, (hg.block p (Array.getElem?_eq_some_iff.1 h2).1 (fun h => by have := (HL2.out p h.1).2; omega)).trans h2⟩) (fun a w1 L hI hp => ?_) ?_
      · skip
        have hb2 : Below w1.heap.size w1 (w1.alloc (.cells #[] 5)) := (Below.refl _ _).alloc (Nat.le_refl _) _; refine ⟨Free.wn, .slice (some ⟨w1.heap.size, 0, none⟩) 0 0, w1.alloc (.cells #[] 5), ?_, ⟨_, rfl, hI.1.size, heap_alloc_new w1 _⟩, Kept.all hb2, hI.1.alloc _, fun h => (hI.2 h).trans (hb2.mono hI.1.size)⟩; clear hp hI hb2; go_simp
      refine Free.Seq3.val ?_ (fun _ => Kept.refl _ _) (fun _ _ h => h) (fun a w1 L hI hp => ?_) ?_; rotate_left
      · have e0 := hp.sl 0; simp at e0; refine ⟨Free.wn, ?_⟩; clear hp; go_simp; rfl
      refine Free.Seq3.val ?_ (fun _ => Kept.refl _ _) (fun _ _ h => h) (fun a w1 L hI hp => ?_) ?_; rotate_left
      · have e4 := hp.sl 4; simp at e4; refine ⟨Free.wn, ?_⟩; clear hp; go_simp; rfl
      refine Free.Seq3.val ?_ (fun _ => Kept.refl _ _) (fun _ _ h => h) (fun a w1 L hI hp => ?_) ?_; rotate_left
      · have e19 := hp.b 7 1; have e20 := hp.b 8 0; refine ⟨Free.wn, ?_⟩; clear hp; go_simp; rfl
      refine Free.Seq3.val ?_ (fun _ => Kept.refl _ _) (fun _ _ h => h) (fun a w1 L hI hp => ?_) ?_; rotate_left
      · have e21 := hp.b 9 0; refine ⟨Free.wn, ?_⟩; clear hp; go_simp; rfl
      refine Free.Seq3.val ?_ (fun _ => Kept.refl _ _) (fun _ _ h => h) (fun a w1 L hI hp => ?_) ?_; rotate_left
      · have e22 := hp.b 10 0; have kc4 := (World.cell?_of_block (w := wr) (a := ⟨b, off + k * 5 + 4, none⟩) (hI.1.block b hbl hnb)).trans c4; refine ⟨Free.wn, ?_⟩; clear hp; go_simp; rfl
      refine Free.Seq3.op (T := fun v w' => ∃ A9 c9, v = .slice A9 m c9 ∧ w'.ownsRow wr.heap.size 5 1 (.slice A9 m c9) m (bs xl)) (fun j hj hr v x y ⟨A9, c9, e, h⟩ hg => ⟨A9, c9, e, row_keep h fun q hq => hg.block q (h.lt q hq).2 (fun hh => by have := (h.lt q hq).1; have := (HL2.out q hh.1).2; omega)⟩) (fun a w1 L hI hp => ?_) ?_
      · have e23 := hp.b 11 0; obtain ⟨p, e18, hp1, hp2⟩ := hp.back 6 5 rfl rfl rfl rfl rfl; have hb1 := hI.2 (hp.up 15 40 (by kernel_rfl)); obtain ⟨A9, c9, w9, hrun, h9, hb9⟩ := run_appn (P := Try.prog) w1 elemB _ hp2 hp1 c5 ((HD.out.below hb1).src) (by omega); exact ⟨Free.wn, .slice A9 m c9, w9, Free.exec_app (.tmp 18) (.tmp 23) rfl (Free.eval_tmp e18) (Free.eval_tmp e23) hrun, ⟨A9, c9, rfl, h9⟩, Kept.all hb9, hI.1.trans (Kept.all hb9) (S' := fun _ => False) (fun _ _ h => h.elim), fun _ => hb1.trans (hb9.mono hb1.size)⟩
      refine Free.Seq3.op (T := fun v w' => ∃ A9 c9, v = .agg #[.int .i64 xo, .int .i64 xd, .int .i64 xe, .int .i64 xc, .slice A9 m c9] ∧ w'.ownsRow wr.heap.size 5 1 (.slice A9 m c9) m (bs xl)) (fun j hj hr v x y ⟨A9, c9, e, h⟩ hg => ⟨A9, c9, e, row_keep h fun q hq => hg.block q (h.lt q hq).2 (fun hh => by have := (h.lt q hq).1; have := (HL2.out q hh.1).2; omega)⟩) (fun a w1 L hI hp => ?_) ?_
      · have e17 := hp.b 5 7; obtain ⟨A9, c9, e24, h9⟩ := hp.back 12 0 rfl rfl rfl rfl rfl; refine ⟨Free.wn, .agg #[.int .i64 xo, .int .i64 xd, .int .i64 xe, .int .i64 xc, .slice A9 m c9], w1, ?_, ⟨A9, c9, rfl, h9⟩, Kept.refl _ _, hI⟩; clear hp hI h9; go_simp
      refine Free.Seq3.op (T := fun v w' => ∃ p A9 c9, v = .slice (some ⟨p, 0, none⟩) 1 1 ∧ wr.heap.size ≤ p ∧ w'.heap[p]? = some (.cells #[.int .i64 xo, .int .i64 xd, .int .i64 xe, .int .i64 xc, .slice A9 m c9] 54 (0, 0)) ∧ w'.ownsRow wr.heap.size 5 1 (.slice A9 m c9) m (bs xl)) (fun j hj hr v x y ⟨p, A9, c9, e, h1, h2, h⟩ hg => ⟨p, A9, c9, e, h1, (hg.block p (Array.getElem?_eq_some_iff.1 h2).1 (fun h => by have := (HL2.out p h.1).2; omega)).trans h2, row_keep h fun q hq => hg.block q (h.lt q hq).2 (fun hh => by have := (h.lt q hq).1; have := (HL2.out q hh.1).2; omega)⟩) (fun a w1 L hI hp => ?_) ?_
      · skip
        obtain ⟨A9, c9, e25, h9⟩ := hp.back 13 0 rfl rfl rfl rfl rfl; have hb2 : Below w1.heap.size w1 (w1.alloc (.cells #[.int .i64 xo, .int .i64 xd, .int .i64 xe, .int .i64 xc, .slice A9 m c9] 54)) := (Below.refl _ _).alloc (Nat.le_refl _) _; refine ⟨Free.wn, .slice (some ⟨w1.heap.size, 0, none⟩) 1 1, w1.alloc (.cells #[.int .i64 xo, .int .i64 xd, .int .i64 xe, .int .i64 xc, .slice A9 m c9] 54), ?_, ⟨_, A9, c9, rfl, hI.1.size, heap_alloc_new w1 _, row_keep h9 fun q hq => hb2.block q (h9.lt q hq).2⟩, Kept.all hb2, hI.1.alloc _, fun h => (hI.2 h).trans (hb2.mono hI.1.size)⟩; clear hp hI hb2 h9; go_simp
      refine Free.Seq3.op (T := fun v w' => ∃ A7 c7, v = .slice A7 (k + 1) c7 ∧ OwnE EMsO 5 54 w' w.heap.size (.slice A7 (k + 1) c7) (l.take k ++ [(⟨⟨xo, xd, xe, xc⟩, xl⟩ : Ms)])) (fun j hj hr v x y ⟨A7, c7, e, h⟩ hg => ⟨A7, c7, e, h.keptK (staysX_ms (by decide)) (by decide) hg (fun q hq => absurd hq.2 hj)⟩) (fun a w1 L hI hp => ?_) ?_
      · have e12 := hp.b 0 14; obtain ⟨p, A9, c9, e26, hp1, hp2, h9⟩ := hp.back 14 0 rfl rfl rfl rfl rfl; have hb1 := hI.2 hp.fresh; obtain ⟨A7, c7, w7, hrun, hO7, hg7⟩ := run_more (x := (⟨⟨xo, xd, xe, xc⟩, xl⟩ : Ms)) elemMs (staysX_ms (by decide)) w1 _ (HO.out.keptK (staysX_ms (by decide)) (by decide) (Kept.all (S := fun _ => False) hb1) (fun _ h => h.elim)) HLK.out ⟨A9, c9, by rw [← HM.out], by rw [← HM.out]; exact Sl.of_row (row_base6 h9 (by omega)), by rw [← HM.out]; omega⟩ rfl (by have := hb1.size; omega) (by omega) (src_cells hp2 1 5 rfl (by simp [Value.oneCell'])) (c := 1); exact ⟨Free.wn, .slice A7 (k + 1) c7, w7, Free.exec_app (.tmp 12) (.tmp 26) rfl (Free.eval_tmp e12) (Free.eval_tmp e26) hrun, ⟨A7, c7, rfl, hO7⟩, (Kept.refl _ _).grown hg7 (fun q hq => .inl ⟨hq, rfl⟩), hI.1.grown hg7 (fun q hq => .inl hq), fun h => by simp [Free.upd] at h⟩
      refine Free.Seq3.op (T := fun v w' => ∃ A7 c7, v = .slice A7 (k + 1) c7 ∧ OwnE EMsO 5 54 w' w.heap.size (.slice A7 (k + 1) c7) (l.take k ++ [(⟨⟨xo, xd, xe, xc⟩, xl⟩ : Ms)])) (fun j hj hr v x y ⟨A7, c7, e, h⟩ hg => ⟨A7, c7, e, h.keptK (staysX_ms (by decide)) (by decide) hg (fun q hq => by have h9 := hr 40; rw [hq.2] at h9; exact absurd (h9.symm.trans (by kernel_rfl : _ = true)) (by decide))⟩) (fun a w1 L hI hp => ?_) ?_
      · skip
        obtain ⟨A7, c7, e27, h7⟩ := hp.back 15 0 rfl rfl rfl rfl rfl; refine ⟨Free.wn, .slice A7 (k + 1) c7, w1, ?_, ⟨A7, c7, rfl, h7⟩, Kept.refl _ _, hI⟩; clear hp; go_simp
      refine Free.Seq3.done (by simp) (fun wz L hIz hLz => ?_); simp only [List.reverse_cons, List.reverse_nil, List.nil_append, List.cons_append, Free.All, Free.eqF, forall_eq]; rintro x6 - x12 - x13 - x14 - x15 - _ ⟨A7, c7, rfl, ho7⟩; simp only [Free.putL, Act.put, List.setIfInBounds_toArray, List.set_cons_zero, List.set_cons_succ]; have HB9 := Lib.hid (HB.out.trans (hIz.1.below hws (fun q hq hs => by have := (HL2.out q hs).1; omega))); clear hIz
      go_wp2_with fail
      refine ⟨⟨k + 1, A7, c7, by simp, by omega, rfl, ?_, HB9.out⟩, by simp only [intOf]; omega⟩; rw [← HT.out]; exact ho7
    · have hkn : k = n := by omega
      subst hkn
      go_wp2_with fail
      go_ret
      exact ⟨A2, c2, rfl, by have := HO.out; rw [List.take_of_length_le (by have := HLN.out; omega)] at this; exact this, HB.out⟩
set_option maxRecDepth 100000 in
set_option maxHeartbeats 4000000 in
theorem rcopymarks_any (A : Option Addr) (n c B : Nat) (l : List Mk) (w : World) (hR : RdE EMk 4 w B A n c l) (hn : n * 48 ≤ 140737488351232) (hl : ∀ m ∈ l, m.m.length * 8 ≤ 140737488351232) :
    Calls Try.prog 20 #[.slice A n c] w fun e w' => ∃ A' c', e = .returned (.slice A' n c') ∧ OwnE EMkO 4 58 w' w.heap.size (.slice A' n c') l ∧ Below w.heap.size w w' := by
  have HR := Lib.hid hR; have HLN := Lib.hid hR.len; have HL := Lib.hid hl; clear hR hl
  go_enter Try.func20, Try.ntmps20
  go_wp2_with fail
  have hO0 : OwnE EMkO 4 58 (w.alloc (.cells #[] 58)) w.heap.size (.slice (some ⟨w.heap.size, 0, none⟩) 0 0) [] := OwnE.emp (heap_alloc_new w _) (Nat.le_refl _); have hB0 : Below w.heap.size w (w.alloc (.cells #[] 58)) := (Below.refl _ _).alloc (Nat.le_refl _) _; have HO0 := Lib.hid hO0; have HB0 := Lib.hid hB0; clear hO0 hB0
  go_loopw [3, 4] (fun o i wr => ∃ (k : Nat) (A2 : Option Addr) (c2 : Nat), i = .int .i64 k ∧ k ≤ n ∧ o = .slice A2 k c2 ∧ Hid (OwnE EMkO 4 58 wr w.heap.size (.slice A2 k c2) (l.take k) ∧ Below w.heap.size w wr)) (fun _ i _ => n - (intOf i).toNat)
  case atStart => exact ⟨0, _, 0, rfl, Nat.zero_le _, rfl, by rw [List.take_zero]; exact HO0.out, HB0.out⟩
  case round =>
    obtain ⟨k, A2, c2, rfl, hk, rfl, ho, hb⟩ := hrel; have HO := Lib.hid ho; have HB := Lib.hid hb; have hws := hb.size; clear ho hb
    by_cases hlt : k < n
    · obtain ⟨b, off, x, cs, rfl, _, hbw, hx, ⟨A5, c5, rfl, hrd⟩, _, hcell⟩ := HR.out.at' hlt; have hxl := HL.out x (List.mem_of_getElem? hx); have HT : Hid (l.take k ++ [x] = l.take (k + 1)) := by
        show _ = _
        rw [List.take_add_one, hx]; rfl
      have hbl : b < wr.heap.size := by omega
      have c0 := (HB.out.cell (p := ⟨b, off + k * 4, none⟩) hbw).trans (hcell 0 _ rfl); have c1 := (HB.out.cell (p := ⟨b, off + k * 4 + 1, none⟩) hbw).trans (hcell 1 _ rfl); have c2' := (HB.out.cell (p := ⟨b, off + k * 4 + 2, none⟩) hbw).trans (hcell 2 _ rfl); have c3 := (HB.out.cell (p := ⟨b, off + k * 4 + 3, none⟩) hbw).trans (hcell 3 _ rfl); have HD := Lib.hid (hrd.below keeps_int HB.out); have HL2 := Lib.hid HO.out.lt; have hnb : ¬ Value.ownBlock (.slice A2 k c2) = some b := fun e => by have := (HL2.out b e).1; omega
      have hkb : k < 281474976710656 := by omega
      have HLK : Hid ((l.take k).length = k) := by show _ = _; rw [List.length_take, HLN.out]; omega
      obtain ⟨xo, xe, xu, xl⟩ := x; simp only at c0 c1 c2' c3 HD hxl; obtain ⟨m, hm⟩ : ∃ m, m = xl.length := ⟨_, rfl⟩; rw [← hm] at c3 HD hxl; have HM := Lib.hid hm; clear hcell hx hrd hm
      go_wp2_with fail
      refine Free.wp_seq3 (I := fun L w' => Kept (fun q => Value.ownBlock (.slice A2 k c2) = some q) wr w' ∧ (L 25 = false → Below wr.heap.size wr w')) (Gr := fun j x y => Kept (fun q => Value.ownBlock (.slice A2 k c2) = some q ∧ j = 25) x y) (by kernel_rfl) (by kernel_rfl) ⟨(Kept.refl _ _).drew, fun _ => (Below.refl _ _).drew⟩ ?_; refine Free.Seq3.val ?_ (fun _ => Kept.refl _ _) (fun _ _ h => h) (fun a w1 L hI hp => ?_) ?_; rotate_left
      · have e3 := hp.sl 3; simp at e3; refine ⟨Free.wn, ?_⟩; clear hp; go_simp; rfl
      refine Free.Seq3.val ?_ (fun _ => Kept.refl _ _) (fun _ _ h => h) (fun a w1 L hI hp => ?_) ?_; rotate_left
      · have e0 := hp.sl 0; simp at e0; refine ⟨Free.wn, ?_⟩; clear hp; go_simp; rfl
      refine Free.Seq3.val ?_ (fun _ => Kept.refl _ _) (fun _ _ h => h) (fun a w1 L hI hp => ?_) ?_; rotate_left
      · have e4 := hp.sl 4; simp at e4; refine ⟨Free.wn, ?_⟩; clear hp; go_simp; rfl
      refine Free.Seq3.val ?_ (fun _ => Kept.refl _ _) (fun _ _ h => h) (fun a w1 L hI hp => ?_) ?_; rotate_left
      · have e13 := hp.b 1 1; have e14 := hp.b 2 0; refine ⟨Free.wn, ?_⟩; clear hp; go_simp; rfl
      refine Free.Seq3.val ?_ (fun _ => Kept.refl _ _) (fun _ _ h => h) (fun a w1 L hI hp => ?_) ?_; rotate_left
      · have e15 := hp.b 3 0; refine ⟨Free.wn, ?_⟩; clear hp; go_simp; rfl
      refine Free.Seq3.val ?_ (fun _ => Kept.refl _ _) (fun _ _ h => h) (fun a w1 L hI hp => ?_) ?_; rotate_left
      · have e16 := hp.b 4 0; have kc0 := (World.cell?_of_block (w := wr) (a := ⟨b, off + k * 4, none⟩) (hI.1.block b hbl hnb)).trans c0; refine ⟨Free.wn, ?_⟩; clear hp; go_simp; rfl
      refine Free.Seq3.val ?_ (fun _ => Kept.refl _ _) (fun _ _ h => h) (fun a w1 L hI hp => ?_) ?_; rotate_left
      · have e0 := hp.sl 0; simp at e0; refine ⟨Free.wn, ?_⟩; clear hp; go_simp; rfl
      refine Free.Seq3.val ?_ (fun _ => Kept.refl _ _) (fun _ _ h => h) (fun a w1 L hI hp => ?_) ?_; rotate_left
      · have e4 := hp.sl 4; simp at e4; refine ⟨Free.wn, ?_⟩; clear hp; go_simp; rfl
      refine Free.Seq3.val ?_ (fun _ => Kept.refl _ _) (fun _ _ h => h) (fun a w1 L hI hp => ?_) ?_; rotate_left
      · have e18 := hp.b 6 1; have e19 := hp.b 7 0; refine ⟨Free.wn, ?_⟩; clear hp; go_simp; rfl
      refine Free.Seq3.val ?_ (fun _ => Kept.refl _ _) (fun _ _ h => h) (fun a w1 L hI hp => ?_) ?_; rotate_left
      · have e20 := hp.b 8 0; refine ⟨Free.wn, ?_⟩; clear hp; go_simp; rfl
      refine Free.Seq3.val ?_ (fun _ => Kept.refl _ _) (fun _ _ h => h) (fun a w1 L hI hp => ?_) ?_; rotate_left
      · have e21 := hp.b 9 0; have kc1 := (World.cell?_of_block (w := wr) (a := ⟨b, off + k * 4 + 1, none⟩) (hI.1.block b hbl hnb)).trans c1; refine ⟨Free.wn, ?_⟩; clear hp; go_simp; rfl
      refine Free.Seq3.val ?_ (fun _ => Kept.refl _ _) (fun _ _ h => h) (fun a w1 L hI hp => ?_) ?_; rotate_left
      · have e0 := hp.sl 0; simp at e0; refine ⟨Free.wn, ?_⟩; clear hp; go_simp; rfl
      refine Free.Seq3.val ?_ (fun _ => Kept.refl _ _) (fun _ _ h => h) (fun a w1 L hI hp => ?_) ?_; rotate_left
      · have e4 := hp.sl 4; simp at e4; refine ⟨Free.wn, ?_⟩; clear hp; go_simp; rfl
      refine Free.Seq3.val ?_ (fun _ => Kept.refl _ _) (fun _ _ h => h) (fun a w1 L hI hp => ?_) ?_; rotate_left
      · have e23 := hp.b 11 1; have e24 := hp.b 12 0; refine ⟨Free.wn, ?_⟩; clear hp; go_simp; rfl
      refine Free.Seq3.val ?_ (fun _ => Kept.refl _ _) (fun _ _ h => h) (fun a w1 L hI hp => ?_) ?_; rotate_left
      · have e25 := hp.b 13 0; refine ⟨Free.wn, ?_⟩; clear hp; go_simp; rfl
      refine Free.Seq3.val ?_ (fun _ => Kept.refl _ _) (fun _ _ h => h) (fun a w1 L hI hp => ?_) ?_; rotate_left
      · have e26 := hp.b 14 0; have kc2 := (World.cell?_of_block (w := wr) (a := ⟨b, off + k * 4 + 2, none⟩) (hI.1.block b hbl hnb)).trans c2'; refine ⟨Free.wn, ?_⟩; clear hp; go_simp; rfl
      refine Free.Seq3.op (T := fun v w' => ∃ p, v = .slice (some ⟨p, 0, none⟩) 0 0 ∧ wr.heap.size ≤ p ∧ w'.heap[p]? = some (.cells #[] 3 (0, 0))) (fun j hj hr v x y ⟨p, e, h1, h2⟩ hg => ⟨p, e, h1, (hg.block p (Array.getElem?_eq_some_iff.1 h2).1 (fun h => by have := (HL2.out p h.1).2; omega)).trans h2⟩) (fun a w1 L hI hp => ?_) ?_
      · skip
        have hb2 : Below w1.heap.size w1 (w1.alloc (.cells #[] 3)) := (Below.refl _ _).alloc (Nat.le_refl _) _; refine ⟨Free.wn, .slice (some ⟨w1.heap.size, 0, none⟩) 0 0, w1.alloc (.cells #[] 3), ?_, ⟨_, rfl, hI.1.size, heap_alloc_new w1 _⟩, Kept.all hb2, hI.1.alloc _, fun h => (hI.2 h).trans (hb2.mono hI.1.size)⟩; clear hp hI hb2; go_simp
      refine Free.Seq3.val ?_ (fun _ => Kept.refl _ _) (fun _ _ h => h) (fun a w1 L hI hp => ?_) ?_; rotate_left
      · have e0 := hp.sl 0; simp at e0; refine ⟨Free.wn, ?_⟩; clear hp; go_simp; rfl
      refine Free.Seq3.val ?_ (fun _ => Kept.refl _ _) (fun _ _ h => h) (fun a w1 L hI hp => ?_) ?_; rotate_left
      · have e4 := hp.sl 4; simp at e4; refine ⟨Free.wn, ?_⟩; clear hp; go_simp; rfl
      refine Free.Seq3.val ?_ (fun _ => Kept.refl _ _) (fun _ _ h => h) (fun a w1 L hI hp => ?_) ?_; rotate_left
      · have e29 := hp.b 17 1; have e30 := hp.b 18 0; refine ⟨Free.wn, ?_⟩; clear hp; go_simp; rfl
      refine Free.Seq3.val ?_ (fun _ => Kept.refl _ _) (fun _ _ h => h) (fun a w1 L hI hp => ?_) ?_; rotate_left
      · have e31 := hp.b 19 0; refine ⟨Free.wn, ?_⟩; clear hp; go_simp; rfl
      refine Free.Seq3.val ?_ (fun _ => Kept.refl _ _) (fun _ _ h => h) (fun a w1 L hI hp => ?_) ?_; rotate_left
      · have e32 := hp.b 20 0; have kc3 := (World.cell?_of_block (w := wr) (a := ⟨b, off + k * 4 + 3, none⟩) (hI.1.block b hbl hnb)).trans c3; refine ⟨Free.wn, ?_⟩; clear hp; go_simp; rfl
      refine Free.Seq3.op (T := fun v w' => ∃ A9 c9, v = .slice A9 m c9 ∧ w'.ownsRow wr.heap.size 3 1 (.slice A9 m c9) m (is64 xl)) (fun j hj hr v x y ⟨A9, c9, e, h⟩ hg => ⟨A9, c9, e, row_keep h fun q hq => hg.block q (h.lt q hq).2 (fun hh => by have := (h.lt q hq).1; have := (HL2.out q hh.1).2; omega)⟩) (fun a w1 L hI hp => ?_) ?_
      · have e33 := hp.b 21 0; obtain ⟨p, e28, hp1, hp2⟩ := hp.back 16 5 rfl rfl rfl rfl rfl; have hb1 := hI.2 (hp.up 25 40 (by kernel_rfl)); obtain ⟨A9, c9, w9, hrun, h9, hb9⟩ := run_appn (P := Try.prog) w1 elemI _ hp2 hp1 c5 (src_ints (HD.out.below keeps_int hb1)) (by omega); exact ⟨Free.wn, .slice A9 m c9, w9, Free.exec_app (.tmp 28) (.tmp 33) rfl (Free.eval_tmp e28) (Free.eval_tmp e33) hrun, ⟨A9, c9, rfl, h9⟩, Kept.all hb9, hI.1.trans (Kept.all hb9) (S' := fun _ => False) (fun _ _ h => h.elim), fun _ => hb1.trans (hb9.mono hb1.size)⟩
      refine Free.Seq3.op (T := fun v w' => ∃ A9 c9, v = .agg #[.int .i64 xo, .int .i64 xe, .int .i64 xu, .slice A9 m c9] ∧ w'.ownsRow wr.heap.size 3 1 (.slice A9 m c9) m (is64 xl)) (fun j hj hr v x y ⟨A9, c9, e, h⟩ hg => ⟨A9, c9, e, row_keep h fun q hq => hg.block q (h.lt q hq).2 (fun hh => by have := (h.lt q hq).1; have := (HL2.out q hh.1).2; omega)⟩) (fun a w1 L hI hp => ?_) ?_
      · have e17 := hp.b 5 17; have e22 := hp.b 10 12; have e27 := hp.b 15 7; obtain ⟨A9, c9, e34, h9⟩ := hp.back 22 0 rfl rfl rfl rfl rfl; refine ⟨Free.wn, .agg #[.int .i64 xo, .int .i64 xe, .int .i64 xu, .slice A9 m c9], w1, ?_, ⟨A9, c9, rfl, h9⟩, Kept.refl _ _, hI⟩; clear hp hI h9; go_simp
      refine Free.Seq3.op (T := fun v w' => ∃ p A9 c9, v = .slice (some ⟨p, 0, none⟩) 1 1 ∧ wr.heap.size ≤ p ∧ w'.heap[p]? = some (.cells #[.int .i64 xo, .int .i64 xe, .int .i64 xu, .slice A9 m c9] 58 (0, 0)) ∧ w'.ownsRow wr.heap.size 3 1 (.slice A9 m c9) m (is64 xl)) (fun j hj hr v x y ⟨p, A9, c9, e, h1, h2, h⟩ hg => ⟨p, A9, c9, e, h1, (hg.block p (Array.getElem?_eq_some_iff.1 h2).1 (fun h => by have := (HL2.out p h.1).2; omega)).trans h2, row_keep h fun q hq => hg.block q (h.lt q hq).2 (fun hh => by have := (h.lt q hq).1; have := (HL2.out q hh.1).2; omega)⟩) (fun a w1 L hI hp => ?_) ?_
      · skip
        obtain ⟨A9, c9, e35, h9⟩ := hp.back 23 0 rfl rfl rfl rfl rfl; have hb2 : Below w1.heap.size w1 (w1.alloc (.cells #[.int .i64 xo, .int .i64 xe, .int .i64 xu, .slice A9 m c9] 58)) := (Below.refl _ _).alloc (Nat.le_refl _) _; refine ⟨Free.wn, .slice (some ⟨w1.heap.size, 0, none⟩) 1 1, w1.alloc (.cells #[.int .i64 xo, .int .i64 xe, .int .i64 xu, .slice A9 m c9] 58), ?_, ⟨_, A9, c9, rfl, hI.1.size, heap_alloc_new w1 _, row_keep h9 fun q hq => hb2.block q (h9.lt q hq).2⟩, Kept.all hb2, hI.1.alloc _, fun h => (hI.2 h).trans (hb2.mono hI.1.size)⟩; clear hp hI hb2 h9; go_simp
      refine Free.Seq3.op (T := fun v w' => ∃ A7 c7, v = .slice A7 (k + 1) c7 ∧ OwnE EMkO 4 58 w' w.heap.size (.slice A7 (k + 1) c7) (l.take k ++ [(⟨xo, xe, xu, xl⟩ : Mk)])) (fun j hj hr v x y ⟨A7, c7, e, h⟩ hg => ⟨A7, c7, e, h.keptK (staysX_mk (by decide)) (by decide) hg (fun q hq => absurd hq.2 hj)⟩) (fun a w1 L hI hp => ?_) ?_
      · have e12 := hp.b 0 24; obtain ⟨p, A9, c9, e36, hp1, hp2, h9⟩ := hp.back 24 0 rfl rfl rfl rfl rfl; have hb1 := hI.2 hp.fresh; obtain ⟨A7, c7, w7, hrun, hO7, hg7⟩ := run_more (x := (⟨xo, xe, xu, xl⟩ : Mk)) elemMk (staysX_mk (by decide)) w1 _ (HO.out.keptK (staysX_mk (by decide)) (by decide) (Kept.all (S := fun _ => False) hb1) (fun _ h => h.elim)) HLK.out ⟨A9, c9, by rw [← HM.out], by rw [← HM.out]; exact row_base6 h9 (by omega), by rw [← HM.out]; omega⟩ rfl (by have := hb1.size; omega) (by omega) (src_cells hp2 1 4 rfl (by simp [Value.oneCell'])) (c := 1); exact ⟨Free.wn, .slice A7 (k + 1) c7, w7, Free.exec_app (.tmp 12) (.tmp 36) rfl (Free.eval_tmp e12) (Free.eval_tmp e36) hrun, ⟨A7, c7, rfl, hO7⟩, (Kept.refl _ _).grown hg7 (fun q hq => .inl ⟨hq, rfl⟩), hI.1.grown hg7 (fun q hq => .inl hq), fun h => by simp [Free.upd] at h⟩
      refine Free.Seq3.op (T := fun v w' => ∃ A7 c7, v = .slice A7 (k + 1) c7 ∧ OwnE EMkO 4 58 w' w.heap.size (.slice A7 (k + 1) c7) (l.take k ++ [(⟨xo, xe, xu, xl⟩ : Mk)])) (fun j hj hr v x y ⟨A7, c7, e, h⟩ hg => ⟨A7, c7, e, h.keptK (staysX_mk (by decide)) (by decide) hg (fun q hq => by have h9 := hr 40; rw [hq.2] at h9; exact absurd (h9.symm.trans (by kernel_rfl : _ = true)) (by decide))⟩) (fun a w1 L hI hp => ?_) ?_
      · skip
        obtain ⟨A7, c7, e37, h7⟩ := hp.back 25 0 rfl rfl rfl rfl rfl; refine ⟨Free.wn, .slice A7 (k + 1) c7, w1, ?_, ⟨A7, c7, rfl, h7⟩, Kept.refl _ _, hI⟩; clear hp; go_simp
      refine Free.Seq3.done (by simp) (fun wz L hIz hLz => ?_); simp only [List.reverse_cons, List.reverse_nil, List.nil_append, List.cons_append, Free.All, Free.eqF, forall_eq]; rintro x16 - x22 - x23 - x24 - x25 - _ ⟨A7, c7, rfl, ho7⟩; simp only [Free.putL, Act.put, List.setIfInBounds_toArray, List.set_cons_zero, List.set_cons_succ]; have HB9 := Lib.hid (HB.out.trans (hIz.1.below hws (fun q hq hs => by have := (HL2.out q hs).1; omega))); clear hIz
      go_wp2_with fail
      refine ⟨⟨k + 1, A7, c7, by simp, by omega, rfl, ?_, HB9.out⟩, by simp only [intOf]; omega⟩; rw [← HT.out]; exact ho7
    · have hkn : k = n := by omega
      subst hkn
      go_wp2_with fail
      go_ret
      exact ⟨A2, c2, rfl, by have := HO.out; rw [List.take_of_length_le (by have := HLN.out; omega)] at this; exact this, HB.out⟩
theorem kept_sets {S : Nat → Prop} {q : Nat} (hq : S q) : ∀ (vs : List Value) (k : Nat) (w : World), Kept S w (sets q k vs w)
  | [], _, _ => Kept.refl _ _
  | v :: r, k, _ => ((Kept.refl _ _).setCell (p := ⟨q, k, none⟩) (.inl hq) v).trans (kept_sets hq r (k + 1) _) (fun _ _ h => h)
/-- a state in new memory -/
structure Lim (s : St) : Prop where
  nx : s.nx.length * 16 ≤ 140737488351232
  hd : s.hd.length * 56 ≤ 140737488351232
  sn : s.sn.length * 48 ≤ 140737488351232
  l : ∀ m ∈ s.hd, m.l.length ≤ 140737488351232
  m : ∀ m ∈ s.sn, m.m.length * 8 ≤ 140737488351232
set_option maxRecDepth 100000 in
set_option maxHeartbeats 4000000 in
theorem rcopystate_any (s : St) (v : Sv) (B : Nat) (w : World) (hR : RdS w B v s) (hm : Lim s) :
    Calls Try.prog 9 #[stv s v] w fun e w' => ∃ v', e = .returned (stv s v') ∧ RdS w' w.heap.size v' s ∧ Below w.heap.size w w' := by
  obtain ⟨A1, n1, c1, A2, n2, c2, A3, n3, c3⟩ := v; obtain ⟨self, ep, nx, hd, sn⟩ := s; obtain ⟨hx1, hx2, hx3, hx4, hx5⟩ := hm; obtain ⟨hr1, hr2, hr3⟩ := hR; simp only at hx1 hx2 hx3 hx4 hx5 hr1 hr2 hr3; have hL1 := hr1.len; have hL2 := hr2.len; have hL3 := hr3.len; rw [hL1] at hx1; rw [hL2] at hx2; rw [hL3] at hx3; have HC := Lib.hid (fun (W : World) (h : Below w.heap.size w W) => rcopy_any A2 n2 c2 B hd W (hr2.below keeps_ms h) hx2 hx4); have HM := Lib.hid (fun (W : World) (h : Below w.heap.size w W) => rcopymarks_any A3 n3 c3 B sn W (hr3.below keeps_mk h) hx3 hx5); have HX := Lib.hid (fun (W : World) (h : Below w.heap.size w W) => src_nx (hr1.below keeps_nx h)); have HL1 := Lib.hid hL1; have HL2 := Lib.hid hL2; have HL3 := Lib.hid hL3; clear hr1 hr2 hr3 hx4 hx5 hL1 hL2 hL3; unfold stv; simp only
  go_enter Try.func9, Try.ntmps9
  go_wp2_with fail
  obtain ⟨W, hW⟩ : ∃ W, W = (w.alloc (.cells #[.int .i64 self, .int .i64 ep, .slice A1 n1 c1, .slice A2 n2 c2, .slice A3 n3 c3] 26)).alloc (.cells #[.int .i64 0, .int .i64 0, .slice none 0 0, .slice none 0 0, .slice none 0 0] 26) := ⟨_, rfl⟩; rw [← hW]; have hWs : W.heap.size = w.heap.size + 2 := by rw [hW]; simp
  have HWB : Hid (Below w.heap.size w W) := by show Below _ _ _; rw [hW]; exact ((Below.refl _ _).alloc (Nat.le_refl _) _).alloc (by simp) _
  have g0 : W.heap[w.heap.size]? = some (.cells #[.int .i64 self, .int .i64 ep, .slice A1 n1 c1, .slice A2 n2 c2, .slice A3 n3 c3] 26 (0, 0)) := by rw [hW]; exact (heap_alloc_old _ _ (by simp)).trans (heap_alloc_new w _)
  have G1 : Hid (W.heap[w.heap.size + 1]? = some (.cells #[.int .i64 0, .int .i64 0, .slice none 0 0, .slice none 0 0, .slice none 0 0] 26 (0, 0))) := by show _ = _; rw [hW]; simpa using heap_alloc_new (w.alloc _) (.cells #[.int .i64 0, .int .i64 0, .slice none 0 0, .slice none 0 0, .slice none 0 0] 26)
  have a0 := cell_of_cells g0 0; have a1 := cell_of_cells g0 1; have a2 := cell_of_cells g0 2; have a3 := cell_of_cells g0 3; have a4 := cell_of_cells g0 4; simp at a0 a1 a2 a3 a4; have hw0 : w.heap.size < W.heap.size := by omega
  clear hW g0; refine Free.wp_last (I := fun w' => Below W.heap.size W w') (Gr := fun w1 w2 => Below w1.heap.size w1 w2) (by kernel_rfl) (by simp) (by kernel_rfl) (by kernel_rfl) (Below.refl _ _).drew ?_
  dsimp only [List.dropLast, List.getLast]
  apply Free.sv; intro a w1 hI hp
  · have e1 := hp.sl 1; simp at e1; refine ⟨Free.wn, ?_⟩; clear hp; go_simp; rfl
  apply Free.sv; intro a w1 hI hp
  · have e3 := hp.b 0 0; have ka0 := (hI.cell (p := ⟨w.heap.size, 0, none⟩) hw0).trans a0; refine ⟨Free.wn, ?_⟩; clear hp; go_simp; rfl
  apply Free.sv; intro a w1 hI hp
  · have e1 := hp.sl 1; simp at e1; refine ⟨Free.wn, ?_⟩; clear hp; go_simp; rfl
  apply Free.sv; intro a w1 hI hp
  · have e5 := hp.b 2 0; have ka1 := (hI.cell (p := ⟨w.heap.size, 1, none⟩) hw0).trans a1; refine ⟨Free.wn, ?_⟩; clear hp; go_simp; rfl
  refine Free.Seq.op (T := fun v w' => ∃ p, v = .slice (some ⟨p, 0, none⟩) 0 0 ∧ W.heap.size ≤ p ∧ w'.heap[p]? = some (.cells #[] 50 (0, 0))) (fun v x y ⟨p, e, h1, h2⟩ hg => ⟨p, e, h1, (hg.block p (Array.getElem?_eq_some_iff.1 h2).1).trans h2⟩) (fun a w1 hI hp => ?_) ?_
  · skip
    have hb2 : Below w1.heap.size w1 (w1.alloc (.cells #[] 50)) := (Below.refl _ _).alloc (Nat.le_refl _) _; refine ⟨Free.wn, .slice (some ⟨w1.heap.size, 0, none⟩) 0 0, w1.alloc (.cells #[] 50), ?_, ⟨_, rfl, hI.size, heap_alloc_new w1 _⟩, hb2, hI.trans (hb2.mono hI.size)⟩; clear hp hI hb2; go_simp
  apply Free.sv; intro a w1 hI hp
  · have e1 := hp.sl 1; simp at e1; refine ⟨Free.wn, ?_⟩; clear hp; go_simp; rfl
  apply Free.sv; intro a w1 hI hp
  · have e8 := hp.b 5 0; have ka2 := (hI.cell (p := ⟨w.heap.size, 2, none⟩) hw0).trans a2; refine ⟨Free.wn, ?_⟩; clear hp; go_simp; rfl
  refine Free.Seq.op (T := fun v w' => ∃ A5 c5, v = .slice A5 n1 c5 ∧ w'.ownsRow W.heap.size 50 2 (.slice A5 n1 c5) n1 (nxc nx)) (fun v x y ⟨A5, c5, e, h⟩ hg => ⟨A5, c5, e, row_keep h fun q hq => hg.block q (h.lt q hq).2⟩) (fun a w1 hI hp => ?_) ?_
  · have e9 := hp.b 6 0; obtain ⟨p, e7, hp1, hp2⟩ := hp.back 4 2 rfl rfl rfl rfl rfl; obtain ⟨A9, c9, w9, hrun, h9, hb9⟩ := run_appn (P := Try.prog) w1 elemNx _ hp2 hp1 c1 (HX.out w1 (HWB.out.trans (hI.mono (by omega)))) (by omega); exact ⟨Free.wn, .slice A9 n1 c9, w9, Free.exec_app (.tmp 7) (.tmp 9) rfl (Free.eval_tmp e7) (Free.eval_tmp e9) hrun, ⟨A9, c9, rfl, h9⟩, hb9, hI.trans (hb9.mono hI.size)⟩
  apply Free.sv; intro a w1 hI hp
  · have e1 := hp.sl 1; simp at e1; refine ⟨Free.wn, ?_⟩; clear hp; go_simp; rfl
  apply Free.sv; intro a w1 hI hp
  · have e11 := hp.b 8 0; have ka3 := (hI.cell (p := ⟨w.heap.size, 3, none⟩) hw0).trans a3; refine ⟨Free.wn, ?_⟩; clear hp; go_simp; rfl
  refine Free.Seq.call (T := fun v w' => ∃ A5 c5, v = .slice A5 n2 c5 ∧ OwnE EMsO 5 54 w' W.heap.size (.slice A5 n2 c5) hd) (fun v x y ⟨A5, c5, e, h⟩ hg => ⟨A5, c5, e, h.keptK (staysX_ms (by decide)) (by decide) (Kept.all (S := fun _ => False) hg) (fun _ h => h.elim)⟩) (fun a w1 hI hp => ?_) ?_
  · have e12 := hp.b 9 0; refine ⟨Free.wn, 19, #[.slice A2 n2 c2], ?_, ?_⟩
    · clear hp; go_simp
    · refine (HC.out w1 (HWB.out.trans (hI.mono (by omega)))).mono ?_; rintro e w' ⟨A5, c5, rfl, ho, hb⟩; exact ⟨_, rfl, ⟨A5, c5, rfl, OwnE.base lower_mso ho hI.size⟩, hb, hI.trans (hb.mono hI.size)⟩
  apply Free.sv; intro a w1 hI hp
  · have e1 := hp.sl 1; simp at e1; refine ⟨Free.wn, ?_⟩; clear hp; go_simp; rfl
  apply Free.sv; intro a w1 hI hp
  · have e14 := hp.b 11 0; have ka4 := (hI.cell (p := ⟨w.heap.size, 4, none⟩) hw0).trans a4; refine ⟨Free.wn, ?_⟩; clear hp; go_simp; rfl
  refine Free.Seq.call (T := fun v w' => ∃ A5 c5, v = .slice A5 n3 c5 ∧ OwnE EMkO 4 58 w' W.heap.size (.slice A5 n3 c5) sn) (fun v x y ⟨A5, c5, e, h⟩ hg => ⟨A5, c5, e, h.keptK (staysX_mk (by decide)) (by decide) (Kept.all (S := fun _ => False) hg) (fun _ h => h.elim)⟩) (fun a w1 hI hp => ?_) ?_
  · have e15 := hp.b 12 0; refine ⟨Free.wn, 20, #[.slice A3 n3 c3], ?_, ?_⟩
    · clear hp; go_simp
    · refine (HM.out w1 (HWB.out.trans (hI.mono (by omega)))).mono ?_; rintro e w' ⟨A5, c5, rfl, ho, hb⟩; exact ⟨_, rfl, ⟨A5, c5, rfl, OwnE.base lower_mko ho hI.size⟩, hb, hI.trans (hb.mono hI.size)⟩
  refine Free.Seq.op (T := fun v w' => ∃ A5 c5 A6 c6 A7 c7, v = .agg #[.int .i64 self, .int .i64 ep, .slice A5 n1 c5, .slice A6 n2 c6, .slice A7 n3 c7] ∧ w'.ownsRow W.heap.size 50 2 (.slice A5 n1 c5) n1 (nxc nx) ∧ OwnE EMsO 5 54 w' W.heap.size (.slice A6 n2 c6) hd ∧ OwnE EMkO 4 58 w' W.heap.size (.slice A7 n3 c7) sn) (fun v x y ⟨A5, c5, A6, c6, A7, c7, e, h1, h2, h3⟩ hg => ⟨A5, c5, A6, c6, A7, c7, e, row_keep h1 fun q hq => hg.block q (h1.lt q hq).2, h2.keptK (staysX_ms (by decide)) (by decide) (Kept.all (S := fun _ => False) hg) (fun _ h => h.elim), h3.keptK (staysX_mk (by decide)) (by decide) (Kept.all (S := fun _ => False) hg) (fun _ h => h.elim)⟩) (fun a w1 hI hp => ?_) ?_
  · have e4 := hp.b 1 12; have e6 := hp.b 3 10; obtain ⟨A5, c5, e10, h1⟩ := hp.back 7 6 rfl rfl rfl rfl rfl; obtain ⟨A6, c6, e13, h2⟩ := hp.back 10 3 rfl rfl rfl rfl rfl; obtain ⟨A7, c7, e16, h3⟩ := hp.back 13 0 rfl rfl rfl rfl rfl; refine ⟨Free.wn, .agg #[.int .i64 self, .int .i64 ep, .slice A5 n1 c5, .slice A6 n2 c6, .slice A7 n3 c7], w1, ?_, ⟨A5, c5, A6, c6, A7, c7, rfl, h1, h2, h3⟩, Below.refl _ _, hI⟩; clear hp hI h1 h2 h3; go_simp
  refine Free.Seq.done (by simp) (fun wz hIz => ?_); simp only [List.reverse_cons, List.reverse_nil, List.nil_append, List.cons_append, Free.All, Free.eqF, forall_eq]; rintro x4 - x7 - x10 - x13 - _ ⟨A5, c5, A6, c6, A7, c7, rfl, h1, h2, h3⟩; simp only [Free.putL, Act.put, List.setIfInBounds_toArray, List.set_cons_zero, List.set_cons_succ]; refine ⟨trivial, ?_⟩; have hz := (hIz.block (w.heap.size + 1) (by omega)).trans G1.out; have HBZ := Lib.hid (HWB.out.trans (hIz.mono (by omega))); have hzs := hIz.size; have r0 := cell_of_cells hz 0; have r1 := cell_of_cells hz 1; have r2 := cell_of_cells hz 2; have r3 := cell_of_cells hz 3; have r4 := cell_of_cells hz 4; simp at r0 r1 r2 r3 r4; have f0 := frozen_of_row wz (w.heap.size + 1) 0 _ _ hz; have f1 := frozen_of_row wz (w.heap.size + 1) 1 _ _ hz; have f2 := frozen_of_row wz (w.heap.size + 1) 2 _ _ hz; have f3 := frozen_of_row wz (w.heap.size + 1) 3 _ _ hz; have f4 := frozen_of_row wz (w.heap.size + 1) 4 _ _ hz; obtain ⟨vs, hvs⟩ : ∃ vs : List Value, vs = [.int .i64 self, .int .i64 ep, .slice A5 n1 c5, .slice A6 n2 c6, .slice A7 n3 c7] := ⟨_, rfl⟩; have hst := sets_heap0 (vs := vs) (us := [.int .i64 0, .int .i64 0, .slice none 0 0, .slice none 0 0, .slice none 0 0]) hz (by rw [hvs]; rfl); have hbe := sets_below (show w.heap.size ≤ w.heap.size + 1 by omega) vs 0 wz HBZ.out; have hK : Kept (fun q => q < W.heap.size) wz (sets (w.heap.size + 1) 0 vs wz) := kept_sets (by omega) vs 0 wz; have hq1 := OwnE.base lower_nx ((own_nx HL1.out h1).keptK (staysX_nx _) (by decide) hK (fun _ h => h)) (show w.heap.size ≤ W.heap.size by omega); have hq2 := OwnE.base lower_mso (h2.keptK (staysX_ms (by decide)) (by decide) hK (fun _ h => h)) (show w.heap.size ≤ W.heap.size by omega); have hq3 := OwnE.base lower_mko (h3.keptK (staysX_mk (by decide)) (by decide) hK (fun _ h => h)) (show w.heap.size ≤ W.heap.size by omega); subst hvs; simp only [sets, Nat.zero_add, Nat.reduceAdd] at hst hbe hq1 hq2 hq3; have HST := Lib.hid hst; have HBE := Lib.hid hbe; have HQ1 := Lib.hid hq1; have HQ2 := Lib.hid hq2; have HQ3 := Lib.hid hq3; clear hst hbe hq1 hq2 hq3 h1 h2 h3 hK hz hIz
  go_wp2_with fail
  refine bodyPost_ret (results_cell_row rfl _ _ (w.heap.size + 1) _ _ _ _ rfl HST.out Try.underlying26 rfl (by kernel_rfl)) rfl ?_; exact ⟨⟨A5, n1, c5, A6, n2, c6, A7, n3, c7⟩, rfl, ⟨OwnE.rd (fun _ _ h => h) HQ1.out (show n1 ≤ _ by omega), OwnE.rd ms_of_own HQ2.out (show n2 ≤ _ by omega), OwnE.rd mk_of_own HQ3.out (show n3 ≤ _ by omega)⟩, HBE.out⟩
end Go.Proofs.Ytcnlgcmooegfkaa
namespace Go.Proofs.Ytcnlgcmooegfkaa
open Go.RowKit Mg Sn

set_option maxRecDepth 100000 in
set_option maxHeartbeats 2000000 in
theorem rgetn_no (A : Option Addr) (n c : Nat) (at_ size : Nat) (w : World) (hn : n ≤ 281474976710656) (ha : n < at_ + size) (hs : 1 ≤ size) (hs4 : size ≤ 4) (hat : at_ ≤ 600000000000000) :
    Calls Try.prog 58 #[.slice A n c, .int .i64 at_, .int .i64 size] w fun e w' => e = .returned (.tuple #[.int .u64 0, .int .i64 2]) ∧ Below w.heap.size w w' := by
  have b0 : (0 : Int) ≤ (at_ : Int) := by omega
  have b1 : (1 : Int) ≤ (size : Int) := by omega
  have b2 : (size : Int) ≤ 8 := by omega
  have hsub : IntKind.i64.wrap ((n : Int) - (at_ : Int)) = (n : Int) - (at_ : Int) := IntWalk.i64_in _ (by omega)
  by_cases h : n < at_
  · have d1 : decide ((n : Int) < (at_ : Int)) = true := by simp; omega
    go_enter Try.func58, Try.ntmps58
    go_wp2_with fail
    go_ret2
    exact ⟨rfl, Below.refl _ _⟩
  · have d1 : decide ((n : Int) < (at_ : Int)) = false := by simp; omega
    have d2 : decide ((n : Int) - (at_ : Int) < (size : Int)) = true := by simp; omega
    go_enter Try.func58, Try.ntmps58
    go_wp2_with fail
    go_ret2
    exact ⟨rfl, Below.refl _ _⟩
set_option maxRecDepth 100000 in
set_option maxHeartbeats 2000000 in
theorem rgetn_ok (A : Option Addr) (n c : Nat) (l : List UInt8) (at_ size : Nat) (w : World) (hR : Rd w A n c l) (hn : n ≤ 281474976710656) (ha : at_ + size ≤ n) (hs : 1 ≤ size) (hs4 : size ≤ 4) :
    Calls Try.prog 58 #[.slice A n c, .int .i64 at_, .int .i64 size] w fun e w' => e = .returned (.tuple #[.int .u64 (nval ((l.drop at_).take size)), .int .i64 0]) ∧ Below w.heap.size w w' := by
  obtain ⟨b, off, rfl, hb, hc⟩ := hR.at_ (by omega); have HC := Lib.hid hc; have HL := Lib.hid hR.len; clear hR hc; have b0 : (0 : Int) ≤ (at_ : Int) := by omega
  have b1 : (1 : Int) ≤ (size : Int) := by omega
  have b2 : (size : Int) ≤ 8 := by omega
  have hsub : IntKind.i64.wrap ((n : Int) - (at_ : Int)) = (n : Int) - (at_ : Int) := IntWalk.i64_in _ (by omega); have d1 : decide ((n : Int) < (at_ : Int)) = false := by simp; omega
  have d2 : decide ((n : Int) - (at_ : Int) < (size : Int)) = false := by simp; omega
  go_enter Try.func58, Try.ntmps58
  go_wp2_with fail
  go_loopw [8, 9] (fun v i wr => ∃ k : Nat, i = .int .i64 k ∧ k ≤ size ∧ v = .int .u64 (nval ((l.drop at_).take k)) ∧ Hid (Below w.heap.size w wr)) (fun _ i _ => size - (intOf i).toNat)
  case atStart => exact ⟨0, rfl, Nat.zero_le _, by simp [nval], Below.refl _ _⟩
  case round =>
    obtain ⟨k, rfl, hk, rfl, hb2⟩ := hrel; have HB := Lib.hid hb2.out; clear hb2; have hv := nval_lt ((l.drop at_).take k); have hvl : ((l.drop at_).take k).length = k := by
      rw [List.length_take, List.length_drop]; have := HL.out; omega
    rw [hvl] at hv
    by_cases hlt : k < size
    · obtain ⟨x, hx⟩ : ∃ x, l[at_ + k]? = some x := ⟨_, List.getElem?_eq_getElem (by have := HL.out; omega)⟩; have c0 := (HB.out.cell (p := ⟨b, off + (at_ + k), none⟩) hb).trans (HC.out (at_ + k) x hx); unfold bv at c0; have HTK : Hid ((l.drop at_).take (k + 1) = (l.drop at_).take k ++ [x]) := by
        show _ = _
        rw [List.take_add_one, List.getElem?_drop, hx]; rfl
      have hv2 : 256 ^ k ≤ 256 ^ 3 := Nat.pow_le_pow_right (by omega) (by omega); obtain ⟨V, hV⟩ : ∃ V, V = nval ((l.drop at_).take k) := ⟨_, rfl⟩; rw [← hV] at hv ⊢; have hx8 := x.toNat_lt; obtain ⟨y, hy⟩ : ∃ z : Nat, z = x.toNat := ⟨_, rfl⟩; rw [← hy] at c0 hx8; have HV := Lib.hid hV; have HY := Lib.hid hy; have hV3 : V < 16777216 := by omega
      have hm1 : IntKind.u64.wrap (256 * (V : Int)) = 256 * (V : Int) := IntWalk.u64_in _ (by omega); have hm2 : IntKind.u64.wrap (256 * (V : Int) + (y : Int)) = 256 * (V : Int) + (y : Int) := IntWalk.u64_in _ (by omega); have hm3 : IntKind.u64.wrap (y : Int) = (y : Int) := IntWalk.u64_in _ (by omega); have hadd : IntKind.i64.wrap ((at_ : Int) + (k : Int)) = ((at_ + k : Nat) : Int) := by rw [IntWalk.i64_in _ (by omega)]; omega
      have hak : at_ + k < n := by omega
      clear hV hy hv hv2 hvl hx
      go_wp2_with fail
      refine ⟨⟨k + 1, by simp, by omega, ?_, HB.out⟩, by simp only [intOf]; omega⟩; rw [HTK.out, nval_snoc, ← HV.out, ← HY.out]
      congr 1
      omega
    · have hks : k = size := by omega
      subst hks
      go_wp2_with fail
      go_ret2
      exact ⟨rfl, HB.out⟩
/-- the document's place: none behind the end -/
def atI : Option Nat → Int
  | none => -1
  | some n => n
def tk (b : List UInt8) (o : Option Nat) (k : Nat) : Option Nat × Nat := match o with
  | none => (none, 0)
  | some n => if n + k ≤ b.length then (some (n + k), rdV b n k) else (none, 0)
def offv (A : Option Addr) (n c : Nat) (o : Option Nat) : Value := .agg #[.slice A n c, .int .i64 (atI o)]
/-- is a place in bytes? -/
def InB (n : Nat) (o : Option Nat) : Prop := ∀ m, o = some m → m ≤ n
theorem tk_in {b : List UInt8} {o : Option Nat} {k n : Nat} (hb : b.length = n) : InB n (tk b o k).1 := by
  intro m h; unfold tk at h
  cases o with
  | none => cases h
  | some a =>
    simp only at h
    split at h
    · simp at h; omega
    · cases h
theorem rdV_lt4 (b : List UInt8) (n k : Nat) (hk : k ≤ 4) : rdV b n k < 4294967296 := by
  unfold rdV
  split
  · have := nval_lt ((b.drop n).take k); have h9 : 256 ^ ((b.drop n).take k).length ≤ 256 ^ 4 := Nat.pow_le_pow_right (by omega) (by rw [List.length_take]; omega); omega
  · omega
theorem tk_lt (b : List UInt8) (o : Option Nat) (k : Nat) (hk : k ≤ 2) : (tk b o k).2 < 65536 := by
  unfold tk
  cases o with
  | none => simp
  | some a =>
    simp only
    split
    · exact rdV_lt b a k hk
    · simp
set_option maxRecDepth 100000 in
set_option maxHeartbeats 2000000 in
theorem rtake_any (A : Option Addr) (n c : Nat) (l : List UInt8) (o : Option Nat) (k : Nat) (w : World) (hR : Rd w A n c l) (ho : InB n o) (hk : 1 ≤ k) (hk4 : k ≤ 2) :
    Calls Try.prog 35 #[offv A n c o, .int .i64 k] w fun e w' => e = .returned (.tuple #[offv A n c (tk l o k).1, .int .i64 (tk l o k).2]) ∧ Below w.heap.size w w' := by
  have hbig := hR.big; have hlen := hR.len; unfold offv; obtain ⟨z, hz⟩ : ∃ z, z = atI o := ⟨_, rfl⟩; rw [← hz]; have hB0 : Below w.heap.size w ((w.alloc (.cells #[.slice A n c, .int .i64 z] 78)).alloc (.cells #[.slice none 0 0, .int .i64 0] 78)) := ((Below.refl _ _).alloc (Nat.le_refl _) _).alloc (by simp) _; obtain ⟨W, hW⟩ : ∃ W, W = (w.alloc (.cells #[.slice A n c, .int .i64 z] 78)).alloc (.cells #[.slice none 0 0, .int .i64 0] 78) := ⟨_, rfl⟩; have hWs : W.heap.size = w.heap.size + 2 := by rw [hW]; simp
  have g0 : W.heap[w.heap.size]? = some (.cells #[.slice A n c, .int .i64 z] 78 (0, 0)) := by rw [hW]; exact (heap_alloc_old _ _ (by simp)).trans (heap_alloc_new w _)
  have g1 : W.heap[w.heap.size + 1]? = some (.cells #[.slice none 0 0, .int .i64 0] 78 (0, 0)) := by rw [hW]; simpa using heap_alloc_new (w.alloc _) (.cells #[.slice none 0 0, .int .i64 0] 78)
  rw [← hW] at hB0; have HR := Lib.hid hR; have HB0 := Lib.hid hB0; have HG1 := Lib.hid g1; have a0 := cell_of_cells g0 0; have a1 := cell_of_cells g0 1; simp at a0 a1; have FIN : Hid (∀ W2 (x y : Value), Below W.heap.size W W2 → ((W2.setCell ⟨w.heap.size + 1, 0, none⟩ x).setCell ⟨w.heap.size + 1, 1, none⟩ y).heap[w.heap.size + 1]? = some (.cells #[x, y] 78 (0, 0)) ∧ Below w.heap.size w ((W2.setCell ⟨w.heap.size + 1, 0, none⟩ x).setCell ⟨w.heap.size + 1, 1, none⟩ y) ∧
      W2.cell? ⟨w.heap.size + 1, 0, none⟩ = some (.slice none 0 0) ∧ W2.cell? ⟨w.heap.size + 1, 1, none⟩ = some (.int .i64 0) ∧ W2.frozen? ⟨w.heap.size + 1, 0, none⟩ = false ∧ W2.frozen? ⟨w.heap.size + 1, 1, none⟩ = false ∧ w.heap.size + 1 < W2.heap.size) := fun W2 x y h => by
    have hz := (h.block (w.heap.size + 1) (by omega)).trans HG1.out; exact ⟨heap_setCell_same _ _ 1 _ _ _ (heap_setCell_same _ _ 0 _ _ _ hz), ((HB0.out.trans (h.mono (by omega))).setCell (p := ⟨w.heap.size + 1, 0, none⟩) (Nat.le_succ _) _).setCell (p := ⟨w.heap.size + 1, 1, none⟩) (Nat.le_succ _) _, cell_of_cells hz 0, cell_of_cells hz 1, frozen_of_row W2 _ 0 _ _ hz, frozen_of_row W2 _ 1 _ _ hz, by have := h.size; omega⟩
  have hWs1 : w.heap.size + 1 < W.heap.size := by omega
  clear g0 g1 hB0 hR
  cases o with
  | none =>
    simp only [tk, atI] at hz ⊢; subst hz; clear hW FIN HG1 HB0
    go_enter Try.func35, Try.ntmps35
    go_wp2_with fail
    refine bodyPost_ret (results_cell2 rfl _ _ (w.heap.size + 1) _ _ _ _ rfl (by simpa using heap_alloc_new (w.alloc (.cells #[.slice A n c, .int .i64 (-1)] 78)) (.cells #[.slice A n c, .int .i64 (-1)] 78)) Try.underlying78 rfl (by kernel_rfl)) rfl ?_; exact ⟨rfl, ((Below.refl _ _).alloc (Nat.le_refl _) _).alloc (by simp) _⟩
  | some m =>
    have hmn := ho m rfl; simp only [tk, atI] at hz ⊢; subst hz; have t0 : decide ((m : Int) < 0) = false := by simp
    by_cases h : m + k ≤ n
    · have HT := Lib.hid (rgetn_ok A n c l m k W (HR.out.below HB0.out) hbig h hk (by omega)); have hv4 := rdV_lt4 l m k (by omega); rw [if_pos (by omega)]; have ev : nval ((l.drop m).take k) = rdV l m k := by rw [rdV, if_pos (by omega)]
      rw [ev] at HT; obtain ⟨V, hV⟩ : ∃ V, V = rdV l m k := ⟨_, rfl⟩; rw [← hV] at HT hv4 ⊢; have hadd : IntKind.i64.wrap ((m : Int) + (k : Int)) = ((m + k : Nat) : Int) := by rw [IntWalk.i64_in _ (by omega)]; omega
      have hcv : IntKind.i64.wrap (V : Int) = (V : Int) := IntWalk.i64_in _ (by omega); clear hV ev
      go_enter Try.func35, Try.ntmps35
      go_wp2_with fail
      rw [← hW]; clear hW
      go_wp2_with fail
      refine HT.out.mono ?_; rintro e1 w1 ⟨rfl, hb1⟩; obtain ⟨q1, q2, q3, q4, q5, q6, q7⟩ := FIN.out w1 (.slice A n c) (.int .i64 ((m + k : Nat) : Int)) hb1; have HQ1 := Lib.hid q1; have HQ2 := Lib.hid q2; have a0 := (hb1.cell (p := ⟨w.heap.size, 0, none⟩) (by show w.heap.size < _; omega)).trans a0; have a1 := (hb1.cell (p := ⟨w.heap.size, 1, none⟩) (by show w.heap.size < _; omega)).trans a1; clear q1 q2 hb1
      go_wp2_with fail
      refine bodyPost_ret (results_cell2 rfl _ _ (w.heap.size + 1) _ _ _ _ rfl HQ1.out Try.underlying78 rfl (by kernel_rfl)) rfl ?_; exact ⟨rfl, HQ2.out⟩
    · have HT := Lib.hid (rgetn_no A n c m k W hbig (by omega) hk (by omega) (by omega)); rw [if_neg (by omega)]
      go_enter Try.func35, Try.ntmps35
      go_wp2_with fail
      rw [← hW]; clear hW
      go_wp2_with fail
      refine HT.out.mono ?_; rintro e1 w1 ⟨rfl, hb1⟩; obtain ⟨q1, q2, q3, q4, q5, q6, q7⟩ := FIN.out w1 (.slice A n c) (.int .i64 (-1)) hb1; have HQ1 := Lib.hid q1; have HQ2 := Lib.hid q2; have a0 := (hb1.cell (p := ⟨w.heap.size, 0, none⟩) (by show w.heap.size < _; omega)).trans a0; clear q1 q2 hb1
      go_wp2_with fail
      refine bodyPost_ret (results_cell2 rfl _ _ (w.heap.size + 1) _ _ _ _ rfl HQ1.out Try.underlying78 rfl (by kernel_rfl)) rfl ?_; exact ⟨rfl, HQ2.out⟩
end Go.Proofs.Ytcnlgcmooegfkaa
namespace Go.Proofs.Ytcnlgcmooegfkaa
namespace Sn
open Mg

section
variable (b : List UInt8)
def nxL : Nat → Option Nat → List Nx → Option Nat × List Nx
  | 0, o, l => (o, l)
  | _ + 1, none, l => (none, l)
  | k + 1, some n, l => nxL k (tk b (tk b (some n) 1).1 2).1 (l ++ [⟨((tk b (some n) 1).2 : Nat), ((tk b (tk b (some n) 1).1 2).2 : Nat)⟩])
def hdL : Nat → Option Nat → List Ms → Option Nat × List Ms
  | 0, o, l => (o, l)
  | _ + 1, none, l => (none, l)
  | k + 1, some n, l => match (tk b (some n) 1).1 with
    | none => (none, l)
    | some a => if b.length < a + (tk b (some n) 1).2 then (none, l) else hdL k (some (a + (tk b (some n) 1).2)) (l ++ [gms ((b.drop a).take (tk b (some n) 1).2)])
def moL : Nat → Option Nat → List Int → Option Nat × List Int
  | 0, o, l => (o, l)
  | _ + 1, none, l => (none, l)
  | k + 1, some n, l => moL k (tk b (some n) 2).1 (l ++ [(((tk b (some n) 2).2 : Nat) : Int)])
def mk4 (o : Option Nat) : Option Nat × Nat := tk b (tk b (tk b (tk b o 1).1 2).1 2).1 2
def mkL (o : Option Nat) : Option Nat × Mk :=
  ((moL b (mk4 b o).2 (mk4 b o).1 []).1, ⟨((tk b o 1).2 : Nat), ((tk b (tk b o 1).1 2).2 : Nat), ((tk b (tk b (tk b o 1).1 2).1 2).2 : Nat), (moL b (mk4 b o).2 (mk4 b o).1 []).2⟩)
def snL : Nat → Option Nat → List Mk → Option Nat × List Mk
  | 0, o, l => (o, l)
  | _ + 1, none, l => (none, l)
  | k + 1, some n, l => snL k (mkL b (some n)).1 (l ++ [(mkL b (some n)).2])
def nxsL (o : Option Nat) : Option Nat × List Nx := nxL b (tk b o 1).2 (tk b o 1).1 []
def hdsL (o : Option Nat) : Option Nat × List Ms := hdL b (tk b o 2).2 (tk b o 2).1 []
def snsL (o : Option Nat) : Option Nat × List Mk := snL b (tk b o 2).2 (tk b o 2).1 []
def rp2 : Option Nat := (tk b (tk b (some 0) 1).1 2).1
def rparse : Option Nat × St :=
  ((snsL b (hdsL b (nxsL b (rp2 b)).1).1).1, ⟨((tk b (some 0) 1).2 : Nat), ((tk b (tk b (some 0) 1).1 2).2 : Nat), (nxsL b (rp2 b)).2, (hdsL b (nxsL b (rp2 b)).1).2, (snsL b (hdsL b (nxsL b (rp2 b)).1).1).2⟩)
def rgetS : Option St := if (rparse b).1 = none then none else if ck (rparse b).2 ≠ 0 ∨ ptB (rparse b).2 ≠ b then none else some (rparse b).2
end
section
variable {b : List UInt8}
theorem tk1 {n : Nat} {x : Int} {post : List UInt8} (h0 : 0 ≤ x) (h1 : x ≤ 255) (h : b.drop n = b1 x :: post) : tk b (some n) 1 = (some (n + 1), x.toNat) ∧ b.drop (n + 1) = post ∧ n + 1 ≤ b.length := by
  obtain ⟨_, a2, _, a4, a5⟩ := at1 h0 h1 h; exact ⟨by simp only [tk, if_pos a5]; congr 1; omega, a4, a5⟩
theorem tk2 {n : Nat} {x : Int} {post : List UInt8} (h0 : 0 ≤ x) (h1 : x ≤ 65535) (h : b.drop n = be x.toNat 2 ++ post) : tk b (some n) 2 = (some (n + 2), x.toNat) ∧ b.drop (n + 2) = post ∧ n + 2 ≤ b.length := by
  obtain ⟨_, a2, _, a4, a5⟩ := at2 h0 h1 h; exact ⟨by simp only [tk, if_pos a5]; congr 1; omega, a4, a5⟩
theorem nxL_put : ∀ (nx : List Nx) (n : Nat) (l : List Nx) (post : List UInt8), (∀ x ∈ nx, (0 ≤ x.d ∧ x.d ≤ 255) ∧ 0 ≤ x.c ∧ x.c ≤ 65535) → b.drop n = nxsB nx ++ post → ∃ n', nxL b nx.length (some n) l = (some n', l ++ nx) ∧ b.drop n' = post
  | [], n, l, post, _, h => ⟨n, by simp [nxL], by simpa [nxsB] using h⟩
  | x :: r, n, l, post, hx, h => by
    obtain ⟨hd, hc⟩ := hx x (List.mem_cons_self ..); have e1 : nxsB (x :: r) ++ post = b1 x.d :: (be x.c.toNat 2 ++ (nxsB r ++ post)) := by simp [nxsB, nxB]
    rw [e1] at h; obtain ⟨a1, a4, _⟩ := tk1 hd.1 hd.2 h; obtain ⟨c1, c4, _⟩ := tk2 hc.1 hc.2 a4; obtain ⟨n', h1, h2⟩ := nxL_put r (n + 1 + 2) (l ++ [x]) post (fun y hy => hx y (List.mem_cons_of_mem _ hy)) c4; refine ⟨n', ?_, h2⟩; have e2 : (⟨((x.d.toNat : Nat) : Int), ((x.c.toNat : Nat) : Int)⟩ : Nx) = x := by rw [Int.toNat_of_nonneg hd.1, Int.toNat_of_nonneg hc.1]
    rw [List.length_cons, nxL, a1]; simp only; rw [c1]; simp only; rw [e2, h1]; simp
theorem hdL_put : ∀ (hd : List Ms) (n : Nat) (l : List Ms) (post : List UInt8), (∀ m ∈ hd, chkM m.i m.l.length = 0) → b.drop n = mssB hd ++ post → ∃ n', hdL b hd.length (some n) l = (some n', l ++ hd) ∧ b.drop n' = post
  | [], n, l, post, _, h => ⟨n, by simp [hdL], by simpa [mssB] using h⟩
  | m :: r, n, l, post, hx, h => by
    have hm := hx m (List.mem_cons_self ..); have hn := (chkM_in hm).2.2; have e1 : mssB (m :: r) ++ post = b1 ((6 + m.l.length : Nat) : Int) :: ((idB m.i ++ m.l) ++ (mssB r ++ post)) := by
      rw [b1, Int.toNat_natCast]; simp [mssB, msB, -UInt8.ofNat_add]
    rw [e1] at h; obtain ⟨a1, a4, a5⟩ := tk1 (by omega) (by omega) h; rw [Int.toNat_natCast] at a1; have hq : (idB m.i ++ m.l).length = 6 + m.l.length := by rw [List.length_append, idB_len]
    have hle : n + 1 + (6 + m.l.length) ≤ b.length := by
      have := congrArg List.length a4; rw [List.length_drop, List.length_append, hq] at this; omega
    have a6 : b.drop (n + 1 + (6 + m.l.length)) = mssB r ++ post := by
      rw [← List.drop_drop, a4, ← hq, List.drop_left]
    have a7 : (b.drop (n + 1)).take (6 + m.l.length) = idB m.i ++ m.l := by rw [a4, ← hq, List.take_left]
    obtain ⟨n', h1, h2⟩ := hdL_put r _ (l ++ [m]) post (fun y hy => hx y (List.mem_cons_of_mem _ hy)) a6; refine ⟨n', ?_, h2⟩; rw [List.length_cons, hdL, a1]; simp only; rw [a7, gms_put hm, if_neg (by omega), h1]; simp
theorem moL_put : ∀ (ms : List Int) (n : Nat) (l : List Int) (post : List UInt8), (∀ x ∈ ms, 0 ≤ x ∧ x ≤ 65535) → b.drop n = beL ms ++ post → ∃ n', moL b ms.length (some n) l = (some n', l ++ ms) ∧ b.drop n' = post
  | [], n, l, post, _, h => ⟨n, by simp [moL], by simpa [beL] using h⟩
  | x :: r, n, l, post, hx, h => by
    have hc := hx x (List.mem_cons_self ..); have e1 : beL (x :: r) ++ post = be x.toNat 2 ++ (beL r ++ post) := by simp [beL]
    rw [e1] at h; obtain ⟨c1, c4, _⟩ := tk2 hc.1 hc.2 h; obtain ⟨n', h1, h2⟩ := moL_put r (n + 2) (l ++ [x]) post (fun y hy => hx y (List.mem_cons_of_mem _ hy)) c4; refine ⟨n', ?_, h2⟩; rw [List.length_cons, moL, c1]; simp only; rw [Int.toNat_of_nonneg hc.1, h1]; simp
theorem mkL_put {m : Mk} {n : Nat} {post : List UInt8} (hr : rightB m = true) (hg : m.m.length ≤ 65535) (h : b.drop n = mkB m ++ post) : ∃ n', mkL b (some n) = (some n', m) ∧ b.drop n' = post := by
  obtain ⟨ho, he, hu, hm, _⟩ := rightB_in hr; obtain ⟨o, e, u, ms⟩ := m; simp only at ho he hu hm hg; have e1 : mkB ⟨o, e, u, ms⟩ ++ post = b1 o :: (be e.toNat 2 ++ (be u.toNat 2 ++ (be ((ms.length : Nat) : Int).toNat 2 ++ (beL ms ++ post)))) := by simp [mkB, beL]
  rw [e1] at h; obtain ⟨a1, a4, _⟩ := tk1 (by omega) (by omega) h; obtain ⟨b1, b4, _⟩ := tk2 (by omega) (by omega) a4; obtain ⟨c1, c4, _⟩ := tk2 (by omega) (by omega) b4; obtain ⟨d1, d4, _⟩ := tk2 (x := ((ms.length : Nat) : Int)) (by omega) (by omega) c4; obtain ⟨n', h1, h2⟩ := moL_put ms _ [] post (fun x hx => by have := moreB_in hm x hx; omega) d4; refine ⟨n', ?_, h2⟩; rw [Int.toNat_natCast] at d1; simp only [mkL, mk4, a1, b1, c1, d1, h1, List.nil_append]; rw [Int.toNat_of_nonneg ho.1, Int.toNat_of_nonneg (show 0 ≤ e by omega), Int.toNat_of_nonneg hu.1]
theorem snL_put : ∀ (sn : List Mk) (n : Nat) (l : List Mk) (post : List UInt8), (∀ m ∈ sn, rightB m = true ∧ m.m.length ≤ 65535) → b.drop n = mksB sn ++ post → ∃ n', snL b sn.length (some n) l = (some n', l ++ sn) ∧ b.drop n' = post
  | [], n, l, post, _, h => ⟨n, by simp [snL], by simpa [mksB] using h⟩
  | m :: r, n, l, post, hx, h => by
    have hm := hx m (List.mem_cons_self ..); have e1 : mksB (m :: r) ++ post = mkB m ++ (mksB r ++ post) := by simp [mksB]
    rw [e1] at h; obtain ⟨n1, a1, a2⟩ := mkL_put hm.1 hm.2 h; obtain ⟨n', h1, h2⟩ := snL_put r n1 (l ++ [m]) post (fun y hy => hx y (List.mem_cons_of_mem _ hy)) a2; refine ⟨n', ?_, h2⟩; rw [List.length_cons, snL, a1, h1]; simp
theorem rparse_put {s : St} (h : Ok s) : ∃ n, rparse (putB s) = (some n, s) := by
  obtain ⟨b, hb⟩ : ∃ b, b = putB s := ⟨_, rfl⟩; rw [← hb]; have h1 := h.nxl; have h2 := h.hd; have h3 := h.sn; have hse := h.self; have hep := h.ep; have hd0 : b.drop 0 = b1 s.self :: (be s.ep.toNat 2 ++ (b1 (s.nx.length : Int) :: (nxsB s.nx ++ (be (s.hd.length : Int).toNat 2 ++ (mssB s.hd ++ (be (s.sn.length : Int).toNat 2 ++ (mksB s.sn ++ be (Crc.sum (bodyB s)) 4))))))) := by
    rw [hb, putB]; obtain ⟨q, hq⟩ : ∃ q, q = be (Crc.sum (bodyB s)) 4 := ⟨_, rfl⟩; rw [← hq, bodyB, preB]; simp [beL, b1]
  obtain ⟨a1, a4, _⟩ := tk1 (by omega) (by omega) hd0; obtain ⟨b1, b4, _⟩ := tk2 (by omega) (by omega) a4; obtain ⟨c1, c4, _⟩ := tk1 (x := (s.nx.length : Int)) (by omega) (by omega) b4; have hnx := nextB_in h.nx; have hnc := nextB_c h.nx; obtain ⟨n4, d1, d2⟩ := nxL_put s.nx _ [] _ (fun x hx => by have := hnx x hx; have := hnc x hx; omega) c4; obtain ⟨e1, e4, _⟩ := tk2 (x := (s.hd.length : Int)) (by omega) (by omega) d2; obtain ⟨n6, f1, f2⟩ := hdL_put s.hd _ [] _ (fun m hm => appB_in h.ap m hm) e4; obtain ⟨g1, g4, _⟩ := tk2 (x := (s.sn.length : Int)) (by omega) (by omega) f2; obtain ⟨n8, k1, _⟩ := snL_put s.sn _ [] _ (fun m hm => ⟨marksB_in h.mks m hm, by have := gaps_in hm; have := h.gaps; omega⟩) g4; rw [Int.toNat_natCast] at c1 e1 g1; refine ⟨n8, ?_⟩; have x1 : rp2 b = some (0 + 1 + 2) := by rw [rp2, a1]; simp only; rw [b1]
  have x2 : nxsL b (some (0 + 1 + 2)) = (some n4, s.nx) := by rw [nxsL, c1]; simp only; rw [d1]; rfl
  have x3 : hdsL b (some n4) = (some n6, s.hd) := by rw [hdsL, e1]; simp only; rw [f1]; rfl
  have x4 : snsL b (some n6) = (some n8, s.sn) := by rw [snsL, g1]; simp only; rw [k1]; rfl
  rw [rparse, x1, x2]; simp only; rw [x3]; simp only; rw [x4, a1]; simp only; rw [b1]; simp only; rw [Int.toNat_of_nonneg hse.1, Int.toNat_of_nonneg hep.1]
end
/-- THE LAW: the document's Get is the program's -/
theorem rgetS_eq (l : List UInt8) : rgetS l = getS l := by
  cases hg : getS l with
  | some s =>
    obtain ⟨h1, h2⟩ := (getS_iff l s).1 hg; obtain ⟨n, hn⟩ := rparse_put h1; have hck := (ck_ok s).2 h1; rw [h2] at hn; have hpt : ptB s = l := by rw [ptB, if_pos hck, h2]
    rw [rgetS, hn, if_neg (by simp), if_neg]; simp only; rintro (h | h)
    · exact h hck
    · exact h hpt
  | none =>
    unfold rgetS
    by_cases h1 : (rparse l).1 = none
    · rw [if_pos h1]
    rw [if_neg h1]
    by_cases h2 : ck (rparse l).2 ≠ 0 ∨ ptB (rparse l).2 ≠ l
    · rw [if_pos h2]
    · exfalso
      have h3 : ck (rparse l).2 = 0 := Decidable.not_not.1 fun h => h2 (.inl h)
      have h4 : ptB (rparse l).2 = l := Decidable.not_not.1 fun h => h2 (.inr h)
      have := (getS_iff l (rparse l).2).2 ⟨(ck_ok _).1 h3, by rw [ptB, if_pos h3] at h4; exact h4⟩; rw [hg] at this
      cases this
end Sn
end Go.Proofs.Ytcnlgcmooegfkaa
namespace Go.Proofs.Ytcnlgcmooegfkaa
open Go.RowKit Mg Sn

abbrev offO (A : Option Addr) (n c : Nat) (z : Int) : Obj := .cells #[.slice A n c, .int .i64 z] 78
/-- the result's cell at the end -/
theorem off_fin {w W2 : World} {p B : Nat} (hz : W2.heap[p]? = some (offO none 0 0 0)) (hB : B ≤ p) (hb : Below B w W2) (x y : Value) :
    ((W2.setCell ⟨p, 0, none⟩ x).setCell ⟨p, 1, none⟩ y).heap[p]? = some (.cells #[x, y] 78 (0, 0)) ∧ Below B w ((W2.setCell ⟨p, 0, none⟩ x).setCell ⟨p, 1, none⟩ y) ∧ Kept (fun i => i = p) W2 ((W2.setCell ⟨p, 0, none⟩ x).setCell ⟨p, 1, none⟩ y) ∧
      W2.cell? ⟨p, 0, none⟩ = some (.slice none 0 0) ∧ W2.cell? ⟨p, 1, none⟩ = some (.int .i64 0) ∧ W2.frozen? ⟨p, 0, none⟩ = false ∧ W2.frozen? ⟨p, 1, none⟩ = false ∧ p < W2.heap.size :=
  ⟨heap_setCell_same _ _ 1 _ _ _ (heap_setCell_same _ _ 0 _ _ _ hz), (hb.setCell (p := ⟨p, 0, none⟩) hB _).setCell (p := ⟨p, 1, none⟩) hB _, ((Kept.refl (fun i => i = p) _).setCell (p := ⟨p, 0, none⟩) (.inl rfl) _).setCell (p := ⟨p, 1, none⟩) (.inl rfl) _, cell_of_cells hz 0, cell_of_cells hz 1, frozen_of_row W2 _ 0 _ _ hz, frozen_of_row W2 _ 1 _ _ hz, (Array.getElem?_eq_some_iff.1 hz).1⟩
/-- a place's cell, read and written -/
theorem off_cells {w : World} {p : Nat} {A : Option Addr} {n c : Nat} {z : Int} (h : w.heap[p]? = some (offO A n c z)) : w.cell? ⟨p, 0, none⟩ = some (.slice A n c) ∧ w.cell? ⟨p, 1, none⟩ = some (.int .i64 z) ∧ w.frozen? ⟨p, 0, none⟩ = false ∧ w.frozen? ⟨p, 1, none⟩ = false ∧ p < w.heap.size :=
  ⟨cell_of_cells h 0, cell_of_cells h 1, frozen_of_row w _ 0 _ _ h, frozen_of_row w _ 1 _ _ h, (Array.getElem?_eq_some_iff.1 h).1⟩
theorem off_set {w : World} {p : Nat} {x y : Value} (h : w.heap[p]? = some (.cells #[x, y] 78 (0, 0))) (x' y' : Value) : ((w.setCell ⟨p, 0, none⟩ x').setCell ⟨p, 1, none⟩ y').heap[p]? = some (.cells #[x', y'] 78 (0, 0)) :=
  heap_setCell_same _ _ 1 _ _ _ (heap_setCell_same _ _ 0 _ _ _ h)
theorem nxL_none (b : List UInt8) (k : Nat) (l : List Nx) : nxL b k none l = (none, l) := by cases k <;> rfl
set_option maxRecDepth 100000 in
set_option maxHeartbeats 4000000 in
theorem rnexts_off (A : Option Addr) (n c : Nat) (l : List UInt8) (o : Option Nat) (w : World) (hR : Rd w A n c l) (ho : InB n o) :
    Calls Try.prog 36 #[offv A n c o] w fun e w' => ∃ A' m c', e = .returned (.tuple #[offv A n c (nxsL l o).1, .slice A' m c']) ∧ m = (nxsL l o).2.length ∧ InB n (nxsL l o).1 ∧ OwnE ENx 2 50 w' w.heap.size (.slice A' m c') (nxsL l o).2 ∧ Below w.heap.size w w' := by
  have HTK := Lib.hid (fun (q : Option Nat) (k : Nat) W (h : Below w.heap.size w W) (hq : InB n q) (h1 : 1 ≤ k) (h2 : k ≤ 2) => rtake_any A n c l q k W (hR.below h) hq h1 h2); have HIN := Lib.hid (fun (q : Option Nat) (k : Nat) => tk_in (o := q) (k := k) hR.len); have HLT := Lib.hid (fun (q : Option Nat) (k : Nat) => tk_lt l q k); have HO := Lib.hid ho; obtain ⟨R, hRR⟩ : ∃ R, R = nxsL l o := ⟨_, rfl⟩; rw [← hRR]; have HRR := Lib.hid hRR; unfold offv at HTK ⊢; obtain ⟨z0, hz0⟩ : ∃ z, z = atI o := ⟨_, rfl⟩; rw [← hz0]; have HZ0 := Lib.hid hz0; clear hR ho hRR hz0
  go_enter Try.func36, Try.ntmps36
  go_wp2_with fail
  obtain ⟨W, hW⟩ : ∃ W, W = ((w.alloc (offO A n c z0)).alloc (offO none 0 0 0)).alloc (.cells #[] 50) := ⟨_, rfl⟩; rw [← hW]; have hWs : W.heap.size = w.heap.size + 3 := by rw [hW]; simp
  have hWB : Below w.heap.size w W := by rw [hW]; exact (((Below.refl _ _).alloc (Nat.le_refl _) _).alloc (by simp) _).alloc (by simp; omega) _
  have g1 : W.heap[w.heap.size]? = some (offO A n c z0) := by rw [hW]; exact (heap_alloc_old _ _ (by simp; omega)).trans ((heap_alloc_old _ _ (by simp)).trans (heap_alloc_new w _))
  have g2 : W.heap[w.heap.size + 1]? = some (offO none 0 0 0) := by rw [hW]; exact (heap_alloc_old _ _ (by simp)).trans (by simpa using heap_alloc_new (w.alloc _) (offO none 0 0 0))
  have g3 : W.heap[w.heap.size + 2]? = some (.cells #[] 50 (0, 0)) := by rw [hW]; simpa using heap_alloc_new ((w.alloc _).alloc _) (.cells #[] 50)
  clear hW; have h0 := HTK.out o 1 W hWB HO.out (Nat.le_refl _) (by omega); rw [← HZ0.out] at h0; refine h0.mono ?_; rintro e1 w1 ⟨rfl, hb1⟩; obtain ⟨o1, ho1⟩ : ∃ q, q = (tk l o 1).1 := ⟨_, rfl⟩; obtain ⟨N, hN⟩ : ∃ q, q = (tk l o 1).2 := ⟨_, rfl⟩; rw [← ho1, ← hN]; have hNlt : N < 65536 := by rw [hN]; exact HLT.out o 1 (by omega)
  have HQ1 : Hid (InB n o1) := by show InB _ _; rw [ho1]; exact HIN.out o 1
  have HR0 : Hid (R = nxL l N o1 []) := by show R = _; rw [HRR.out, nxsL, ← ho1, ← hN]
  obtain ⟨z1, hz1⟩ : ∃ z, z = atI o1 := ⟨_, rfl⟩; rw [← hz1]; have HZ1 := Lib.hid hz1; have G1 := Lib.hid ((hb1.block w.heap.size (by omega)).trans g1); have G2 := Lib.hid ((hb1.block (w.heap.size + 1) (by omega)).trans g2); have G3 := Lib.hid ((hb1.block (w.heap.size + 2) (by omega)).trans g3); have HB1 := Lib.hid (hWB.trans (hb1.mono (by omega))); obtain ⟨a0, a1, f0, f1, hp⟩ := off_cells G1.out; clear h0 hb1 g1 g2 g3 hWB ho1 hN hz1 HRR HZ0
  go_wp2_with fail
  obtain ⟨W1, hW1⟩ : ∃ W1, W1 = (w1.setCell ⟨w.heap.size, 0, none⟩ (.slice A n c)).setCell ⟨w.heap.size, 1, none⟩ (.int .i64 z1) := ⟨_, rfl⟩; rw [← hW1]; have H1 : Hid (W1.heap[w.heap.size]? = some (offO A n c z1)) := by show _ = _; rw [hW1]; exact off_set G1.out _ _
  have hK : Kept (fun i => i = w.heap.size) w1 W1 := by rw [hW1]; exact ((Kept.refl (fun i => i = w.heap.size) _).setCell (p := ⟨w.heap.size, 0, none⟩) (.inl rfl) _).setCell (p := ⟨w.heap.size, 1, none⟩) (.inl rfl) _
  have H2 := Lib.hid ((hK.block (w.heap.size + 1) (Array.getElem?_eq_some_iff.1 G2.out).1 (by omega)).trans G2.out); have H3 := Lib.hid ((hK.block (w.heap.size + 2) (Array.getElem?_eq_some_iff.1 G3.out).1 (by omega)).trans G3.out); have HB2 : Hid (Below w.heap.size w W1) := HB1.out.trans (hK.below (by omega) (fun i hi e => by omega)); clear hK hW1 a0 a1 f0 f1 hp G1 G2 G3 HB1
  go_loopw [4, 6] (fun q i wr => ∃ (k : Nat) (A4 : Option Addr) (c4 : Nat) (L : List Nx) (o4 : Option Nat) (z : Int), i = .int .i64 k ∧ k ≤ N ∧ q = .slice A4 k c4 ∧ Hid (z = atI o4 ∧ InB n o4 ∧ L.length = k ∧ R = nxL l (N - k) o4 L ∧ OwnE ENx 2 50 wr (w.heap.size + 1 + 1) (.slice A4 k c4) L ∧ wr.heap[w.heap.size]? = some (offO A n c z) ∧ wr.heap[w.heap.size + 1]? = some (offO none 0 0 0) ∧ Below w.heap.size w wr)) (fun _ i _ => N - (intOf i).toNat)
  case atStart => exact ⟨0, _, 0, [], o1, z1, rfl, Nat.zero_le _, rfl, HZ1.out, HQ1.out, rfl, HR0.out, OwnE.emp H3.out (by omega), H1.out, H2.out, HB2.out⟩
  case round =>
    obtain ⟨k, A4, c4, L, o4, z, rfl, hk, rfl, hz, hin, hL, hRL, hO, h1, h2, hb⟩ := hrel; have HIN4 := Lib.hid hin; have HL := Lib.hid hL; have HRL := Lib.hid hRL; have HO4 := Lib.hid hO; have G1 := Lib.hid h1; have G2 := Lib.hid h2; have HB := Lib.hid hb; have hws := hb.size; obtain ⟨a0, a1, f0, f1, hp⟩ := off_cells h1; clear hin hL hRL hO h1 h2 hb; have FIN : R = (o4, L) → Hid (R = (o4, L)) := fun h => h
    by_cases hlt : k < N
    · have hl0 : (k : Int) < (N : Int) := by omega
      cases o4 with
      | none =>
        simp only [atI] at hz; subst hz; have HF := FIN (by rw [HRL.out]; exact nxL_none _ _ _); clear FIN HRL; obtain ⟨q1, q2, q3, q4, q5, q6, q7, q8⟩ := off_fin G2.out (Nat.le_succ _) HB.out (.slice A n c) (.int .i64 (-1)); have HE := Lib.hid (HO4.out.keptK (staysX_nx _) (by decide) q3 (fun i hi => by omega)); have HQ1 := Lib.hid q1; have HQ2 := Lib.hid q2; clear q1 q2 q3
        go_wp2_with fail
        refine bodyPost_ret (results_cell2 rfl _ _ (w.heap.size + 1) _ _ _ _ rfl HQ1.out Try.underlying78 rfl (by kernel_rfl)) rfl ?_; rw [HF.out]; exact ⟨A4, k, c4, by first | rfl | (rw [HZ.out]; rfl), HL.out.symm, HIN4.out, OwnE.base lower_nx HE.out (by omega), HQ2.out⟩
      | some m =>
        simp only [atI] at hz; subst hz; have hm0 : (0 : Int) ≤ (m : Int) := by omega
        clear FIN
        go_wp2_with fail
        have h5 := HTK.out (some m) 1 wr HB.out HIN4.out (Nat.le_refl _) (by omega); rw [show atI (some m) = (m : Int) from rfl] at h5; refine h5.mono ?_; rintro e5 w5 ⟨rfl, hb5⟩; obtain ⟨o5, ho5⟩ : ∃ q, q = (tk l (some m) 1).1 := ⟨_, rfl⟩; obtain ⟨d5, hd5⟩ : ∃ q, q = (tk l (some m) 1).2 := ⟨_, rfl⟩; rw [← ho5, ← hd5]; have HRL : Hid (R = nxL l (N - (k + 1)) (tk l o5 2).1 (L ++ [⟨(d5 : Nat), ((tk l o5 2).2 : Nat)⟩])) := by
          show R = _
          rw [HRL.out, show N - k = (N - (k + 1)) + 1 by omega, nxL, ← ho5, ← hd5]
        have HQ5 : Hid (InB n o5) := by show InB _ _; rw [ho5]; exact HIN.out _ 1
        obtain ⟨z5, hz5⟩ : ∃ z, z = atI o5 := ⟨_, rfl⟩; rw [← hz5]; have HZ5 := Lib.hid hz5; have G1 := Lib.hid ((hb5.block _ (by omega)).trans G1.out); have G2 := Lib.hid ((hb5.block _ (Array.getElem?_eq_some_iff.1 G2.out).1).trans G2.out); have HO4 := Lib.hid (HO4.out.keptK (staysX_nx _) (by decide) (Kept.all (S := fun _ => False) hb5) (fun _ h => h.elim)); have HB := Lib.hid (HB.out.trans (hb5.mono hws)); have hws5 := HB.out.size; clear h5 hb5 ho5 hd5 hz5 a0 a1 f0 f1 hp
        go_wp2_with fail
        have hb55 : Below w5.heap.size w5 (w5.alloc (offO A n c z5)) := (Below.refl _ _).alloc (Nat.le_refl _) _; have h6 := HTK.out o5 2 _ (HB.out.trans (hb55.mono hws5)) HQ5.out (by omega) (Nat.le_refl _); rw [← HZ5.out] at h6; refine h6.mono ?_; rintro e6 w6 ⟨rfl, hb6'⟩; have hb6 := hb55.trans (hb6'.mono hb55.size); obtain ⟨o6, ho6⟩ : ∃ q, q = (tk l o5 2).1 := ⟨_, rfl⟩; obtain ⟨d6, hd6⟩ : ∃ q, q = (tk l o5 2).2 := ⟨_, rfl⟩; have HRL := HRL; rw [← ho6, ← hd6] at HRL ⊢; have HQ6 : Hid (InB n o6) := by show InB _ _; rw [ho6]; exact HIN.out _ 2
        obtain ⟨z6, hz6⟩ : ∃ z, z = atI o6 := ⟨_, rfl⟩; rw [← hz6]; have HZ6 := Lib.hid hz6; have G1 := Lib.hid ((hb6.block _ (Array.getElem?_eq_some_iff.1 G1.out).1).trans G1.out); have G2 := Lib.hid ((hb6.block _ (Array.getElem?_eq_some_iff.1 G2.out).1).trans G2.out); have HO4 := Lib.hid (HO4.out.keptK (staysX_nx _) (by decide) (Kept.all (S := fun _ => False) hb6) (fun _ h => h.elim)); have HB := Lib.hid (HB.out.trans (hb6.mono hws5)); have hws6 := HB.out.size; obtain ⟨a0, a1, f0, f1, hp⟩ := off_cells G1.out; have hp2 := (Array.getElem?_eq_some_iff.1 G2.out).1; clear h6 hb6 hb6' hb55 ho6 hd6 hz6; have hn1 : ¬ (w.heap.size + 1 = w.heap.size ∨ Value.ownBlock (.slice A4 k c4) = some (w.heap.size + 1)) := by
          rintro (e | e)
          · omega
          · have := (HO4.out.lt _ e).1; omega
        have HN1 := Lib.hid hn1; have hlt4 : ∀ i, i < w.heap.size → ¬ (i = w.heap.size ∨ Value.ownBlock (.slice A4 k c4) = some i) := fun i hi => by
          rintro (e | e)
          · omega
          · have := (HO4.out.lt _ e).1; omega
        have HLT4 := Lib.hid hlt4; clear hn1 hlt4
        go_wp2_with (first | ((with_reducible show wpList _ _ _ (⟨some 43, _, _, _, _, _⟩ :: _) _ _); refine wpList_more (S := fun z => z = w.heap.size) (q := w.heap.size + 1) (x := (⟨(d5 : Nat), (d6 : Nat)⟩ : Nx)) (cs := [.int .i64 (d5 : Nat), .int .i64 (d6 : Nat)]) elemNx (staysX_nx _) (staysX_nx _) (by decide) HO4.out HL.out rfl rfl (((((Kept.refl (fun z => z = w.heap.size) w6).setCell (p := ⟨w.heap.size, 0, none⟩) (.inl rfl) _).setCell (p := ⟨w.heap.size, 1, none⟩) (.inl rfl) _).alloc _).alloc _) (fun i hi => by omega) (by omega) (by omega) rfl (.tmp 38) (.tmp 42) rfl rfl rfl (Src.new' _ (w6.heap.size + 1) (by simp) [.int .i64 (d5 : Nat), .int .i64 (d6 : Nat)] _ 1 2 rfl (by simp [Value.oneCell'])) ?_; intro A7 c7 w7 ho7 hx7 hk7 hl7; have HO7 := Lib.hid ho7; have G17 := Lib.hid ((hl7 w.heap.size (by omega)).trans ((Below.heap_alloc _ _ _ (by simp; omega)).trans ((Below.heap_alloc _ _ _ (by simpa using hp)).trans (off_set G1.out _ _)))); have G27 := Lib.hid ((hk7.block (w.heap.size + 1) hp2 HN1.out).trans G2.out); have HB7 := Lib.hid (HB.out.trans (hk7.below hws6 HLT4.out)); clear ho7 hx7 hk7 hl7) | fail)
        exact ⟨⟨k + 1, A7, c7, L ++ [⟨(d5 : Nat), (d6 : Nat)⟩], o6, z6, by simp, by omega, rfl, HZ6.out, HQ6.out, by simp [HL.out], HRL.out, HO7.out, G17.out, G27.out, HB7.out⟩, by simp only [intOf]; omega⟩
    · have hkN : k = N := by omega
      subst hkN; have HF := FIN (by rw [HRL.out, Nat.sub_self, nxL]); have HZ := Lib.hid hz; clear FIN HRL hz; obtain ⟨q1, q2, q3, q4, q5, q6, q7, q8⟩ := off_fin G2.out (Nat.le_succ _) HB.out (.slice A n c) (.int .i64 (z)); have HE := Lib.hid (HO4.out.keptK (staysX_nx _) (by decide) q3 (fun i hi => by omega)); have HQ1 := Lib.hid q1; have HQ2 := Lib.hid q2; clear q1 q2 q3
      go_wp2_with fail
      refine bodyPost_ret (results_cell2 rfl _ _ (w.heap.size + 1) _ _ _ _ rfl HQ1.out Try.underlying78 rfl (by kernel_rfl)) rfl ?_; rw [HF.out]; exact ⟨A4, k, c4, by first | rfl | (rw [HZ.out]; rfl), HL.out.symm, HIN4.out, OwnE.base lower_nx HE.out (by omega), HQ2.out⟩
end Go.Proofs.Ytcnlgcmooegfkaa
namespace Go.Proofs.Ytcnlgcmooegfkaa
open Go.RowKit Mg Sn

theorem hdL_none (b : List UInt8) (k : Nat) (l : List Ms) : hdL b k none l = (none, l) := by cases k <;> rfl
def hdC (l : List UInt8) (M : Nat) (L : List Ms) (d : Nat) : Option Nat → Option Nat × List Ms
  | none => (none, L)
  | some a => if l.length < a + d then (none, L) else hdL l M (some (a + d)) (L ++ [gms ((l.drop a).take d)])
theorem hdL_succ (l : List UInt8) (M m : Nat) (L : List Ms) : hdL l (M + 1) (some m) L = hdC l M L (tk l (some m) 1).2 (tk l (some m) 1).1 := by
  rw [hdL]
  cases (tk l (some m) 1).1 <;> rfl
theorem tk_some {l : List UInt8} {m k a : Nat} (h : (tk l (some m) k).1 = some a) : a = m + k ∧ m + k ≤ l.length := by
  simp only [tk] at h
  split at h
  · simp at h; omega
  · cases h
theorem getD_le48 (q : List UInt8) (h : q.length < 65536) : (getD' q).length ≤ 65536 := by
  unfold getD'
  split
  · rw [List.length_drop]; omega
  · simp
set_option maxRecDepth 100000 in
set_option maxHeartbeats 4000000 in
theorem rhelds_off (A : Option Addr) (n c : Nat) (l : List UInt8) (o : Option Nat) (w : World) (hR : Rd w A n c l) (ho : InB n o) :
    Calls Try.prog 37 #[offv A n c o] w fun e w' => ∃ A' m c', e = .returned (.tuple #[offv A n c (hdsL l o).1, .slice A' m c']) ∧ m = (hdsL l o).2.length ∧ InB n (hdsL l o).1 ∧ OwnE EMsO 5 54 w' w.heap.size (.slice A' m c') (hdsL l o).2 ∧ Below w.heap.size w w' := by
  have HTK := Lib.hid (fun (q : Option Nat) (k : Nat) W (h : Below w.heap.size w W) (hq : InB n q) (h1 : 1 ≤ k) (h2 : k ≤ 2) => rtake_any A n c l q k W (hR.below h) hq h1 h2); have HBIG := Lib.hid hR.big; have HLEN := Lib.hid hR.len; have HRD := Lib.hid hR; have HIN := Lib.hid (fun (q : Option Nat) (k : Nat) => tk_in (o := q) (k := k) hR.len); have HLT := Lib.hid (fun (q : Option Nat) (k : Nat) => tk_lt l q k); have HO := Lib.hid ho; obtain ⟨R, hRR⟩ : ∃ R, R = hdsL l o := ⟨_, rfl⟩; rw [← hRR]; have HRR := Lib.hid hRR; unfold offv at HTK ⊢; obtain ⟨z0, hz0⟩ : ∃ z, z = atI o := ⟨_, rfl⟩; rw [← hz0]; have HZ0 := Lib.hid hz0; clear hR ho hRR hz0
  go_enter Try.func37, Try.ntmps37
  go_wp2_with fail
  obtain ⟨W, hW⟩ : ∃ W, W = ((w.alloc (offO A n c z0)).alloc (offO none 0 0 0)).alloc (.cells #[] 54) := ⟨_, rfl⟩; rw [← hW]; have hWs : W.heap.size = w.heap.size + 3 := by rw [hW]; simp
  have hWB : Below w.heap.size w W := by rw [hW]; exact (((Below.refl _ _).alloc (Nat.le_refl _) _).alloc (by simp) _).alloc (by simp; omega) _
  have g1 : W.heap[w.heap.size]? = some (offO A n c z0) := by rw [hW]; exact (heap_alloc_old _ _ (by simp; omega)).trans ((heap_alloc_old _ _ (by simp)).trans (heap_alloc_new w _))
  have g2 : W.heap[w.heap.size + 1]? = some (offO none 0 0 0) := by rw [hW]; exact (heap_alloc_old _ _ (by simp)).trans (by simpa using heap_alloc_new (w.alloc _) (offO none 0 0 0))
  have g3 : W.heap[w.heap.size + 2]? = some (.cells #[] 54 (0, 0)) := by rw [hW]; simpa using heap_alloc_new ((w.alloc _).alloc _) (.cells #[] 54)
  clear hW; have h0 := HTK.out o 2 W hWB HO.out (by omega) (Nat.le_refl _); rw [← HZ0.out] at h0; refine h0.mono ?_; rintro e1 w1 ⟨rfl, hb1⟩; obtain ⟨o1, ho1⟩ : ∃ q, q = (tk l o 2).1 := ⟨_, rfl⟩; obtain ⟨N, hN⟩ : ∃ q, q = (tk l o 2).2 := ⟨_, rfl⟩; rw [← ho1, ← hN]; have hNlt : N < 65536 := by rw [hN]; exact HLT.out o 2 (Nat.le_refl _)
  have HQ1 : Hid (InB n o1) := by show InB _ _; rw [ho1]; exact HIN.out o 2
  have HR0 : Hid (R = hdL l N o1 []) := by show R = _; rw [HRR.out, hdsL, ← ho1, ← hN]
  obtain ⟨z1, hz1⟩ : ∃ z, z = atI o1 := ⟨_, rfl⟩; rw [← hz1]; have HZ1 := Lib.hid hz1; have G1 := Lib.hid ((hb1.block w.heap.size (by omega)).trans g1); have G2 := Lib.hid ((hb1.block (w.heap.size + 1) (by omega)).trans g2); have G3 := Lib.hid ((hb1.block (w.heap.size + 2) (by omega)).trans g3); have HB1 := Lib.hid (hWB.trans (hb1.mono (by omega))); obtain ⟨a0, a1, f0, f1, hp⟩ := off_cells G1.out; clear h0 hb1 g1 g2 g3 hWB ho1 hN hz1 HRR HZ0
  go_wp2_with fail
  obtain ⟨W1, hW1⟩ : ∃ W1, W1 = (w1.setCell ⟨w.heap.size, 0, none⟩ (.slice A n c)).setCell ⟨w.heap.size, 1, none⟩ (.int .i64 z1) := ⟨_, rfl⟩; rw [← hW1]; have H1 : Hid (W1.heap[w.heap.size]? = some (offO A n c z1)) := by show _ = _; rw [hW1]; exact off_set G1.out _ _
  have hK : Kept (fun i => i = w.heap.size) w1 W1 := by rw [hW1]; exact ((Kept.refl (fun i => i = w.heap.size) _).setCell (p := ⟨w.heap.size, 0, none⟩) (.inl rfl) _).setCell (p := ⟨w.heap.size, 1, none⟩) (.inl rfl) _
  have H2 := Lib.hid ((hK.block (w.heap.size + 1) (Array.getElem?_eq_some_iff.1 G2.out).1 (by omega)).trans G2.out); have H3 := Lib.hid ((hK.block (w.heap.size + 2) (Array.getElem?_eq_some_iff.1 G3.out).1 (by omega)).trans G3.out); have HB2 : Hid (Below w.heap.size w W1) := HB1.out.trans (hK.below (by omega) (fun i hi e => by omega)); clear hK hW1 a0 a1 f0 f1 hp G1 G2 G3 HB1
  go_loopw [4, 6] (fun q i wr => ∃ (k : Nat) (A4 : Option Addr) (c4 : Nat) (L : List Ms) (o4 : Option Nat) (z : Int), i = .int .i64 k ∧ k ≤ N ∧ q = .slice A4 k c4 ∧ Hid (z = atI o4 ∧ InB n o4 ∧ L.length = k ∧ R = hdL l (N - k) o4 L ∧ OwnE EMsO 5 54 wr (w.heap.size + 1 + 1) (.slice A4 k c4) L ∧ wr.heap[w.heap.size]? = some (offO A n c z) ∧ wr.heap[w.heap.size + 1]? = some (offO none 0 0 0) ∧ Below w.heap.size w wr)) (fun _ i _ => N - (intOf i).toNat)
  case atStart => exact ⟨0, _, 0, [], o1, z1, rfl, Nat.zero_le _, rfl, HZ1.out, HQ1.out, rfl, HR0.out, OwnE.emp H3.out (by omega), H1.out, H2.out, HB2.out⟩
  case round =>
    obtain ⟨k, A4, c4, L, o4, z, rfl, hk, rfl, hz, hin, hL, hRL, hO, h1, h2, hb⟩ := hrel; have HIN4 := Lib.hid hin; have HL := Lib.hid hL; have HRL := Lib.hid hRL; have HO4 := Lib.hid hO; have G1 := Lib.hid h1; have G2 := Lib.hid h2; have HB := Lib.hid hb; have hws := hb.size; obtain ⟨a0, a1, f0, f1, hp⟩ := off_cells h1; clear hin hL hRL hO h1 h2 hb; have FIN : R = (o4, L) → Hid (R = (o4, L)) := fun h => h
    by_cases hlt : k < N
    · have hl0 : (k : Int) < (N : Int) := by omega
      cases o4 with
      | none =>
        simp only [atI] at hz; subst hz; have HF := FIN (by rw [HRL.out]; exact hdL_none _ _ _); clear FIN HRL; obtain ⟨q1, q2, q3, q4, q5, q6, q7, q8⟩ := off_fin G2.out (Nat.le_succ _) HB.out (.slice A n c) (.int .i64 (-1)); have HE := Lib.hid (HO4.out.keptK (staysX_ms (by decide)) (by decide) q3 (fun i hi => by omega)); have HQ1 := Lib.hid q1; have HQ2 := Lib.hid q2; clear q1 q2 q3
        go_wp2_with fail
        refine bodyPost_ret (results_cell2 rfl _ _ (w.heap.size + 1) _ _ _ _ rfl HQ1.out Try.underlying78 rfl (by kernel_rfl)) rfl ?_; rw [HF.out]; exact ⟨A4, k, c4, by first | rfl | (rw [HZ.out]; rfl), HL.out.symm, HIN4.out, OwnE.base lower_mso HE.out (by omega), HQ2.out⟩
      | some m =>
        simp only [atI] at hz; subst hz; have hm0 : (0 : Int) ≤ (m : Int) := by omega
        clear FIN
        go_wp2_with fail
        have h5 := HTK.out (some m) 1 wr HB.out HIN4.out (Nat.le_refl _) (by omega); rw [show atI (some m) = (m : Int) from rfl] at h5; refine h5.mono ?_; rintro e5 w5 ⟨rfl, hb5⟩; obtain ⟨o5, ho5⟩ : ∃ q, q = (tk l (some m) 1).1 := ⟨_, rfl⟩; obtain ⟨d5, hd5⟩ : ∃ q, q = (tk l (some m) 1).2 := ⟨_, rfl⟩; rw [← ho5, ← hd5]; have HRL : Hid (R = hdC l (N - (k + 1)) L d5 o5) := by
          show R = _
          rw [HRL.out, show N - k = (N - (k + 1)) + 1 by omega, hdL_succ, ← ho5, ← hd5]
        have HQ5 : Hid (InB n o5) := by show InB _ _; rw [ho5]; exact HIN.out _ 1
        have hd5l : d5 < 65536 := by rw [hd5]; exact HLT.out _ 1 (by omega)
        have HS5 : Hid (∀ a, o5 = some a → a = m + 1 ∧ m + 1 ≤ l.length) := fun a h => tk_some (by rw [← ho5]; exact h)
        obtain ⟨z5, hz5⟩ : ∃ z, z = atI o5 := ⟨_, rfl⟩; rw [← hz5]; have HZ5 := Lib.hid hz5; have G1 := Lib.hid ((hb5.block _ (by omega)).trans G1.out); have G2 := Lib.hid ((hb5.block _ (Array.getElem?_eq_some_iff.1 G2.out).1).trans G2.out); have HO4 := Lib.hid (HO4.out.keptK (staysX_ms (by decide)) (by decide) (Kept.all (S := fun _ => False) hb5) (fun _ h => h.elim)); have HB := Lib.hid (HB.out.trans (hb5.mono hws)); have hws5 := HB.out.size; clear h5 hb5 ho5 hd5 hz5 a0 a1 f0 f1 hp HLT HIN; have hb55 : Below w5.heap.size w5 (w5.alloc (offO A n c z5)) := (Below.refl _ _).alloc (Nat.le_refl _) _; have g7 := heap_alloc_new w5 (offO A n c z5); have hs7 : (w5.alloc (offO A n c z5)).heap.size = w5.heap.size + 1 := by simp
        cases o5 with
        | none =>
          have hz := HZ5.out; simp only [atI] at hz; subst hz; have HF : Hid (R = (none, L)) := HRL.out; have HIN4 : Hid (InB n none) := HQ5.out; clear HRL HQ5 HS5 HZ5; clear hb55 g7 hs7; obtain ⟨a0, a1, f0, f1, hp⟩ := off_cells G1.out; obtain ⟨q1, q2, q3, q4, q5, q6, q7, q8⟩ := off_fin G2.out (Nat.le_succ _) HB.out (.slice A n c) (.int .i64 (-1)); have HE := Lib.hid (HO4.out.keptK (staysX_ms (by decide)) (by decide) (q3.alloc (offO A n c (-1))) (fun i hi => by omega)); have HQ1 := Lib.hid ((heap_alloc_old _ (offO A n c (-1)) (by simpa using q8)).trans q1); have HQ2 := Lib.hid (q2.alloc (by simpa using hws5) (offO A n c (-1))); clear q1 q2 q3
          go_wp2_with fail
          refine bodyPost_ret (results_cell2 rfl _ _ (w.heap.size + 1) _ _ _ _ rfl HQ1.out Try.underlying78 rfl (by kernel_rfl)) rfl ?_; rw [HF.out]; exact ⟨A4, k, c4, rfl, HL.out.symm, HIN4.out, OwnE.base lower_mso HE.out (by omega), HQ2.out⟩
        | some a =>
          have hz := HZ5.out; simp only [atI] at hz; subst hz; obtain ⟨ham, hml⟩ := HS5.out a rfl; have han := HQ5.out a rfl; have HIN4 : Hid (InB n none) := fun _ h => by cases h
          have ha1 : 1 ≤ a := by omega
          clear HS5 HZ5 ham hml; have t5 : decide ((a : Int) < 0) = false := by simp
          have hsb : IntKind.i64.wrap ((n : Int) - (a : Int)) = (n : Int) - (a : Int) := IntWalk.i64_in _ (by have := HBIG.out; omega)
          by_cases hlt5 : n < a + d5
          · have HF : Hid (R = (none, L)) := by show R = _; rw [HRL.out, hdC, if_pos (by have := HLEN.out; omega)]
            have t6 : decide ((n : Int) - (a : Int) < (d5 : Int)) = true := by simp; omega
            clear HRL HQ5 hb55 g7 hs7; obtain ⟨a0, a1, f0, f1, hp⟩ := off_cells G1.out; obtain ⟨q1, q2, q3, q4, q5, q6, q7, q8⟩ := off_fin G2.out (Nat.le_succ _) HB.out (.slice A n c) (.int .i64 (-1)); have HE := Lib.hid (HO4.out.keptK (staysX_ms (by decide)) (by decide) (q3.alloc (offO A n c ((a:Int)))) (fun i hi => by omega)); have HQ1 := Lib.hid ((heap_alloc_old _ (offO A n c ((a:Int))) (by simpa using q8)).trans q1); have HQ2 := Lib.hid (q2.alloc (by simpa using hws5) (offO A n c ((a:Int)))); clear q1 q2 q3
            go_wp2_with fail
            refine bodyPost_ret (results_cell2 rfl _ _ (w.heap.size + 1) _ _ _ _ rfl HQ1.out Try.underlying78 rfl (by kernel_rfl)) rfl ?_; rw [HF.out]; exact ⟨A4, k, c4, rfl, HL.out.symm, HIN4.out, OwnE.base lower_mso HE.out (by omega), HQ2.out⟩
          · have HRL : Hid (R = hdL l (N - (k + 1)) (some (a + d5)) (L ++ [gms ((l.drop a).take d5)])) := by show R = _; rw [HRL.out, hdC, if_neg (by have := HLEN.out; omega)]
            have t6 : decide ((n : Int) - (a : Int) < (d5 : Int)) = false := by simp; omega
            obtain ⟨b, off, rfl, hbl, _⟩ := HRD.out.at_ (by omega); have hcap := HRD.out.cap; have hadd : IntKind.i64.wrap ((a : Int) + (d5 : Int)) = ((a + d5 : Nat) : Int) := by rw [IntWalk.i64_in _ (by have := HBIG.out; omega)]; omega
            have hnc : a + d5 ≤ c := by omega
            have hss : a + d5 - a = d5 := by omega
            have hq : Rd (w5.alloc (offO (some ⟨b, off, none⟩) n c a)) (if c = a then some ⟨b, off, none⟩ else some ⟨b, off + a, none⟩) d5 (c - a) ((l.drop a).take d5) := by
              have h9 := (((HRD.out.below HB.out).below hb55).drop (k := a) (by omega)).take (k := d5) (by omega)
              simpa [add_none] using h9
            have hcase : (a = c ∧ Rd (w5.alloc (offO (some ⟨b, off, none⟩) n c a)) (some ⟨b, off, none⟩) d5 0 ((l.drop a).take d5)) ∨ (¬ c = a ∧ Rd (w5.alloc (offO (some ⟨b, off, none⟩) n c a)) (some ⟨b, off + a, none⟩) d5 (c - a) ((l.drop a).take d5)) := by
              by_cases h : c = a
              · rw [if_pos h, show c - a = 0 by omega] at hq; exact .inl ⟨h.symm, hq⟩
              · rw [if_neg h] at hq; exact .inr ⟨h, hq⟩
            have HCASE := Lib.hid hcase; obtain ⟨a0, a1, f0, f1, hp⟩ := off_cells G1.out; clear hq hcase
            rcases HCASE.out with ⟨hca, hq⟩ | ⟨hca, hq⟩
            · subst hca; have HQQ := Lib.hid hq; clear hq HCASE
              go_wp2_with fail
              refine (rget_any _ _ _ _ _ HQQ.out).mono ?_; rintro e6 w6 ⟨A6, n6, c6, rfl, hn6, hs6, hb6⟩; obtain ⟨gm, hgm⟩ : ∃ gm, gm = gms ((l.drop a).take d5) := ⟨_, rfl⟩; have hg1 : getM ((l.drop a).take d5) = gm.i := by rw [hgm]; rfl
              have hg2 : getD' ((l.drop a).take d5) = gm.l := by rw [hgm]; rfl
              rw [hg2] at hn6 hs6; rw [hg1]; have HRL := HRL; rw [← hgm] at HRL; have hl48 : gm.l.length ≤ 65536 := by rw [← hg2]; exact getD_le48 _ (by rw [List.length_take]; omega)
              have hb56 := hb55.trans (hb6.mono hb55.size); have G1 := Lib.hid ((hb56.block _ (Array.getElem?_eq_some_iff.1 G1.out).1).trans G1.out); have G2 := Lib.hid ((hb56.block _ (Array.getElem?_eq_some_iff.1 G2.out).1).trans G2.out); have G7 := Lib.hid ((hb6.block w5.heap.size (by omega)).trans g7); have HN7 : Hid (¬ (False ∨ Value.ownBlock (.slice A4 k c4) = some w5.heap.size)) := by
                show ¬ _
                rintro (e | e)
                · exact e
                · have := (HO4.out.lt _ e).2; omega
              have HN1 : Hid (¬ (False ∨ Value.ownBlock (.slice A4 k c4) = some (w.heap.size + 1))) := by
                show ¬ _
                rintro (e | e)
                · exact e
                · have := (HO4.out.lt _ e).1; omega
              have HLT4 : Hid (∀ i, i < w.heap.size → ¬ (False ∨ Value.ownBlock (.slice A4 k c4) = some i)) := fun i hi => by
                rintro (e | e)
                · exact e
                · have := (HO4.out.lt _ e).1; omega
              have HO4 := Lib.hid (HO4.out.keptK (staysX_ms (by decide)) (by decide) (Kept.all (S := fun _ => False) hb56) (fun _ h => h.elim)); have HB := Lib.hid (HB.out.trans (hb56.mono hws5)); have hws6 := HB.out.size; have h56 := hb56.size; have hp6 : w.heap.size < w6.heap.size := by omega
              have hp2 := (Array.getElem?_eq_some_iff.1 G2.out).1; have hp7 := (Array.getElem?_eq_some_iff.1 G7.out).1; have HE6 : Hid (EMsO w6 (w.heap.size + 1 + 1) gm [.int .i64 gm.i.o, .int .i64 gm.i.d, .int .i64 gm.i.e, .int .i64 gm.i.c, .slice A6 n6 c6]) := ⟨A6, c6, by rw [hn6], by rw [← hn6]; exact hs6.base (fun q hq => by have := (hs6.lt q hq).1; omega), by omega⟩; obtain ⟨gi, gl⟩ := gm; obtain ⟨io, id, ie, ic⟩ := gi; unfold msgv; simp only at HE6; clear hn6 hs6 hgm hg1 hg2 hb6 hb56 hb55 g7 hs7 a0 a1 f0 f1 hp HQQ hl48
              go_wp2_with (first | ((with_reducible show wpList _ _ _ (⟨some 65, _, _, _, _, _⟩ :: _) _ _); refine wpList_more (S := fun _ => False) (q := w.heap.size + 1) elemMs (staysX_ms (by decide)) (staysX_ms (by decide)) (by decide) HO4.out HL.out HE6.out rfl (((Kept.refl (fun _ => False) w6).alloc _).alloc _) (fun i hi => hi.elim) (by omega) (by omega) rfl (.tmp 62) (.tmp 64) rfl rfl rfl (Src.new' _ (w6.heap.size + 1) (by simp) [.int .i64 io, .int .i64 id, .int .i64 ie, .int .i64 ic, .slice A6 n6 c6] _ 1 5 rfl (by simp [Value.oneCell'])) ?_; intro A7 c7 w7 ho7 hx7 hk7 hl7; have HO7 := Lib.hid ho7; have G17 := Lib.hid ((hl7 w.heap.size (by omega)).trans ((Below.heap_alloc _ _ _ (by simp; omega)).trans ((Below.heap_alloc _ _ _ hp6).trans G1.out))); have G27 := Lib.hid ((hk7.block (w.heap.size + 1) hp2 HN1.out).trans G2.out); have g77 := (hk7.block w5.heap.size hp7 HN7.out).trans G7.out; have HB7 := Lib.hid (HB.out.trans (hk7.below hws6 HLT4.out)); obtain ⟨a70, a71, f70, f71, hp77⟩ := off_cells g77; obtain ⟨a0, a1, f0, f1, hp17⟩ := off_cells G17.out; clear ho7 hx7 hk7 hl7 g77) | fail)
              have hKS : Kept (fun z => z = w.heap.size) w7 ((w7.setCell ⟨w.heap.size, 0, none⟩ (.slice (some ⟨b, off, none⟩) n a)).setCell ⟨w.heap.size, 1, none⟩ (.int .i64 ((a + d5 : Nat) : Int))) := ((Kept.refl (fun z => z = w.heap.size) _).setCell (p := ⟨w.heap.size, 0, none⟩) (.inl rfl) _).setCell (p := ⟨w.heap.size, 1, none⟩) (.inl rfl) _; refine ⟨⟨k + 1, A7, c7, L ++ [⟨⟨io, id, ie, ic⟩, gl⟩], some (a + d5), ((a + d5 : Nat) : Int), by simp, by omega, rfl, rfl, fun q hq => by injection hq with hq; omega, by simp [HL.out], HRL.out, HO7.out.keptK (staysX_ms (by decide)) (by decide) hKS (fun i hi => by omega), off_set G17.out _ _, (hKS.block _ (Array.getElem?_eq_some_iff.1 G27.out).1 (by omega)).trans G27.out, HB7.out.trans (hKS.below HB7.out.size (fun i hi e => by omega))⟩, by simp only [intOf]; omega⟩
            · have HQQ := Lib.hid hq; clear hq HCASE
              go_wp2_with fail
              refine (rget_any _ _ _ _ _ HQQ.out).mono ?_; rintro e6 w6 ⟨A6, n6, c6, rfl, hn6, hs6, hb6⟩; obtain ⟨gm, hgm⟩ : ∃ gm, gm = gms ((l.drop a).take d5) := ⟨_, rfl⟩; have hg1 : getM ((l.drop a).take d5) = gm.i := by rw [hgm]; rfl
              have hg2 : getD' ((l.drop a).take d5) = gm.l := by rw [hgm]; rfl
              rw [hg2] at hn6 hs6; rw [hg1]; have HRL := HRL; rw [← hgm] at HRL; have hl48 : gm.l.length ≤ 65536 := by rw [← hg2]; exact getD_le48 _ (by rw [List.length_take]; omega)
              have hb56 := hb55.trans (hb6.mono hb55.size); have G1 := Lib.hid ((hb56.block _ (Array.getElem?_eq_some_iff.1 G1.out).1).trans G1.out); have G2 := Lib.hid ((hb56.block _ (Array.getElem?_eq_some_iff.1 G2.out).1).trans G2.out); have G7 := Lib.hid ((hb6.block w5.heap.size (by omega)).trans g7); have HN7 : Hid (¬ (False ∨ Value.ownBlock (.slice A4 k c4) = some w5.heap.size)) := by
                show ¬ _
                rintro (e | e)
                · exact e
                · have := (HO4.out.lt _ e).2; omega
              have HN1 : Hid (¬ (False ∨ Value.ownBlock (.slice A4 k c4) = some (w.heap.size + 1))) := by
                show ¬ _
                rintro (e | e)
                · exact e
                · have := (HO4.out.lt _ e).1; omega
              have HLT4 : Hid (∀ i, i < w.heap.size → ¬ (False ∨ Value.ownBlock (.slice A4 k c4) = some i)) := fun i hi => by
                rintro (e | e)
                · exact e
                · have := (HO4.out.lt _ e).1; omega
              have HO4 := Lib.hid (HO4.out.keptK (staysX_ms (by decide)) (by decide) (Kept.all (S := fun _ => False) hb56) (fun _ h => h.elim)); have HB := Lib.hid (HB.out.trans (hb56.mono hws5)); have hws6 := HB.out.size; have h56 := hb56.size; have hp6 : w.heap.size < w6.heap.size := by omega
              have hp2 := (Array.getElem?_eq_some_iff.1 G2.out).1; have hp7 := (Array.getElem?_eq_some_iff.1 G7.out).1; have HE6 : Hid (EMsO w6 (w.heap.size + 1 + 1) gm [.int .i64 gm.i.o, .int .i64 gm.i.d, .int .i64 gm.i.e, .int .i64 gm.i.c, .slice A6 n6 c6]) := ⟨A6, c6, by rw [hn6], by rw [← hn6]; exact hs6.base (fun q hq => by have := (hs6.lt q hq).1; omega), by omega⟩; obtain ⟨gi, gl⟩ := gm; obtain ⟨io, id, ie, ic⟩ := gi; unfold msgv; simp only at HE6; clear hn6 hs6 hgm hg1 hg2 hb6 hb56 hb55 g7 hs7 a0 a1 f0 f1 hp HQQ hl48
              go_wp2_with (first | ((with_reducible show wpList _ _ _ (⟨some 65, _, _, _, _, _⟩ :: _) _ _); refine wpList_more (S := fun _ => False) (q := w.heap.size + 1) elemMs (staysX_ms (by decide)) (staysX_ms (by decide)) (by decide) HO4.out HL.out HE6.out rfl (((Kept.refl (fun _ => False) w6).alloc _).alloc _) (fun i hi => hi.elim) (by omega) (by omega) rfl (.tmp 62) (.tmp 64) rfl rfl rfl (Src.new' _ (w6.heap.size + 1) (by simp) [.int .i64 io, .int .i64 id, .int .i64 ie, .int .i64 ic, .slice A6 n6 c6] _ 1 5 rfl (by simp [Value.oneCell'])) ?_; intro A7 c7 w7 ho7 hx7 hk7 hl7; have HO7 := Lib.hid ho7; have G17 := Lib.hid ((hl7 w.heap.size (by omega)).trans ((Below.heap_alloc _ _ _ (by simp; omega)).trans ((Below.heap_alloc _ _ _ hp6).trans G1.out))); have G27 := Lib.hid ((hk7.block (w.heap.size + 1) hp2 HN1.out).trans G2.out); have g77 := (hk7.block w5.heap.size hp7 HN7.out).trans G7.out; have HB7 := Lib.hid (HB.out.trans (hk7.below hws6 HLT4.out)); obtain ⟨a70, a71, f70, f71, hp77⟩ := off_cells g77; obtain ⟨a0, a1, f0, f1, hp17⟩ := off_cells G17.out; clear ho7 hx7 hk7 hl7 g77) | fail)
              have hKS : Kept (fun z => z = w.heap.size) w7 ((w7.setCell ⟨w.heap.size, 0, none⟩ (.slice (some ⟨b, off, none⟩) n c)).setCell ⟨w.heap.size, 1, none⟩ (.int .i64 ((a + d5 : Nat) : Int))) := ((Kept.refl (fun z => z = w.heap.size) _).setCell (p := ⟨w.heap.size, 0, none⟩) (.inl rfl) _).setCell (p := ⟨w.heap.size, 1, none⟩) (.inl rfl) _; refine ⟨⟨k + 1, A7, c7, L ++ [⟨⟨io, id, ie, ic⟩, gl⟩], some (a + d5), ((a + d5 : Nat) : Int), by simp, by omega, rfl, rfl, fun q hq => by injection hq with hq; omega, by simp [HL.out], HRL.out, HO7.out.keptK (staysX_ms (by decide)) (by decide) hKS (fun i hi => by omega), off_set G17.out _ _, (hKS.block _ (Array.getElem?_eq_some_iff.1 G27.out).1 (by omega)).trans G27.out, HB7.out.trans (hKS.below HB7.out.size (fun i hi e => by omega))⟩, by simp only [intOf]; omega⟩
    · have hkN : k = N := by omega
      subst hkN; have HF := FIN (by rw [HRL.out, Nat.sub_self, hdL]); have HZ := Lib.hid hz; clear FIN HRL hz; obtain ⟨q1, q2, q3, q4, q5, q6, q7, q8⟩ := off_fin G2.out (Nat.le_succ _) HB.out (.slice A n c) (.int .i64 (z)); have HE := Lib.hid (HO4.out.keptK (staysX_ms (by decide)) (by decide) q3 (fun i hi => by omega)); have HQ1 := Lib.hid q1; have HQ2 := Lib.hid q2; clear q1 q2 q3
      go_wp2_with fail
      refine bodyPost_ret (results_cell2 rfl _ _ (w.heap.size + 1) _ _ _ _ rfl HQ1.out Try.underlying78 rfl (by kernel_rfl)) rfl ?_; rw [HF.out]; exact ⟨A4, k, c4, by first | rfl | (rw [HZ.out]; rfl), HL.out.symm, HIN4.out, OwnE.base lower_mso HE.out (by omega), HQ2.out⟩
end Go.Proofs.Ytcnlgcmooegfkaa
namespace Go.Proofs.Ytcnlgcmooegfkaa
open Go.RowKit Mg Sn

theorem moL_none (b : List UInt8) (k : Nat) (l : List Int) : moL b k none l = (none, l) := by cases k <;> rfl
theorem snL_none (b : List UInt8) (k : Nat) (l : List Mk) : snL b k none l = (none, l) := by cases k <;> rfl
set_option maxRecDepth 100000 in
set_option maxHeartbeats 4000000 in
theorem rmarks_off (A : Option Addr) (n c : Nat) (l : List UInt8) (o : Option Nat) (w : World) (hR : Rd w A n c l) (ho : InB n o) :
    Calls Try.prog 38 #[offv A n c o] w fun e w' => ∃ A' m c', e = .returned (.tuple #[offv A n c (snsL l o).1, .slice A' m c']) ∧ m = (snsL l o).2.length ∧ InB n (snsL l o).1 ∧ OwnE EMkO 4 58 w' w.heap.size (.slice A' m c') (snsL l o).2 ∧ Below w.heap.size w w' := by
  have HTK := Lib.hid (fun (q : Option Nat) (k : Nat) W (h : Below w.heap.size w W) (hq : InB n q) (h1 : 1 ≤ k) (h2 : k ≤ 2) => rtake_any A n c l q k W (hR.below h) hq h1 h2); have HIN := Lib.hid (fun (q : Option Nat) (k : Nat) => tk_in (o := q) (k := k) hR.len); have HLT := Lib.hid (fun (q : Option Nat) (k : Nat) => tk_lt l q k); have HO := Lib.hid ho; obtain ⟨R, hRR⟩ : ∃ R, R = snsL l o := ⟨_, rfl⟩; rw [← hRR]; have HRR := Lib.hid hRR; unfold offv at HTK ⊢; obtain ⟨z0, hz0⟩ : ∃ z, z = atI o := ⟨_, rfl⟩; rw [← hz0]; have HZ0 := Lib.hid hz0; clear hR ho hRR hz0
  go_enter Try.func38, Try.ntmps38
  go_wp2_with fail
  obtain ⟨W, hW⟩ : ∃ W, W = ((w.alloc (offO A n c z0)).alloc (offO none 0 0 0)).alloc (.cells #[] 58) := ⟨_, rfl⟩; rw [← hW]; have hWs : W.heap.size = w.heap.size + 3 := by rw [hW]; simp
  have hWB : Below w.heap.size w W := by rw [hW]; exact (((Below.refl _ _).alloc (Nat.le_refl _) _).alloc (by simp) _).alloc (by simp; omega) _
  have g1 : W.heap[w.heap.size]? = some (offO A n c z0) := by rw [hW]; exact (heap_alloc_old _ _ (by simp; omega)).trans ((heap_alloc_old _ _ (by simp)).trans (heap_alloc_new w _))
  have g2 : W.heap[w.heap.size + 1]? = some (offO none 0 0 0) := by rw [hW]; exact (heap_alloc_old _ _ (by simp)).trans (by simpa using heap_alloc_new (w.alloc _) (offO none 0 0 0))
  have g3 : W.heap[w.heap.size + 2]? = some (.cells #[] 58 (0, 0)) := by rw [hW]; simpa using heap_alloc_new ((w.alloc _).alloc _) (.cells #[] 58)
  clear hW; have h0 := HTK.out o 2 W hWB HO.out (by omega) (Nat.le_refl _); rw [← HZ0.out] at h0; refine h0.mono ?_; rintro e1 w1 ⟨rfl, hb1⟩; obtain ⟨o1, ho1⟩ : ∃ q, q = (tk l o 2).1 := ⟨_, rfl⟩; obtain ⟨N, hN⟩ : ∃ q, q = (tk l o 2).2 := ⟨_, rfl⟩; rw [← ho1, ← hN]; have hNlt : N < 65536 := by rw [hN]; exact HLT.out o 2 (Nat.le_refl _)
  have HQ1 : Hid (InB n o1) := by show InB _ _; rw [ho1]; exact HIN.out o 2
  have HR0 : Hid (R = snL l N o1 []) := by show R = _; rw [HRR.out, snsL, ← ho1, ← hN]
  obtain ⟨z1, hz1⟩ : ∃ z, z = atI o1 := ⟨_, rfl⟩; rw [← hz1]; have HZ1 := Lib.hid hz1; have G1 := Lib.hid ((hb1.block w.heap.size (by omega)).trans g1); have G2 := Lib.hid ((hb1.block (w.heap.size + 1) (by omega)).trans g2); have G3 := Lib.hid ((hb1.block (w.heap.size + 2) (by omega)).trans g3); have HB1 := Lib.hid (hWB.trans (hb1.mono (by omega))); obtain ⟨a0, a1, f0, f1, hp⟩ := off_cells G1.out; clear h0 hb1 g1 g2 g3 hWB ho1 hN hz1 HRR HZ0
  go_wp2_with fail
  obtain ⟨W1, hW1⟩ : ∃ W1, W1 = (w1.setCell ⟨w.heap.size, 0, none⟩ (.slice A n c)).setCell ⟨w.heap.size, 1, none⟩ (.int .i64 z1) := ⟨_, rfl⟩; rw [← hW1]; have H1 : Hid (W1.heap[w.heap.size]? = some (offO A n c z1)) := by show _ = _; rw [hW1]; exact off_set G1.out _ _
  have hK : Kept (fun i => i = w.heap.size) w1 W1 := by rw [hW1]; exact ((Kept.refl (fun i => i = w.heap.size) _).setCell (p := ⟨w.heap.size, 0, none⟩) (.inl rfl) _).setCell (p := ⟨w.heap.size, 1, none⟩) (.inl rfl) _
  have H2 := Lib.hid ((hK.block (w.heap.size + 1) (Array.getElem?_eq_some_iff.1 G2.out).1 (by omega)).trans G2.out); have H3 := Lib.hid ((hK.block (w.heap.size + 2) (Array.getElem?_eq_some_iff.1 G3.out).1 (by omega)).trans G3.out); have HB2 : Hid (Below w.heap.size w W1) := HB1.out.trans (hK.below (by omega) (fun i hi e => by omega)); clear hK hW1 a0 a1 f0 f1 hp G1 G2 G3 HB1
  go_loopw [4, 6] (fun q i wr => ∃ (k : Nat) (A4 : Option Addr) (c4 : Nat) (L : List Mk) (o4 : Option Nat) (z : Int), i = .int .i64 k ∧ k ≤ N ∧ q = .slice A4 k c4 ∧ Hid (z = atI o4 ∧ InB n o4 ∧ L.length = k ∧ R = snL l (N - k) o4 L ∧ OwnE EMkO 4 58 wr (w.heap.size + 1 + 1) (.slice A4 k c4) L ∧ wr.heap[w.heap.size]? = some (offO A n c z) ∧ wr.heap[w.heap.size + 1]? = some (offO none 0 0 0) ∧ Below w.heap.size w wr)) (fun _ i _ => N - (intOf i).toNat)
  case atStart => exact ⟨0, _, 0, [], o1, z1, rfl, Nat.zero_le _, rfl, HZ1.out, HQ1.out, rfl, HR0.out, OwnE.emp H3.out (by omega), H1.out, H2.out, HB2.out⟩
  case round =>
    obtain ⟨k, A4, c4, L, o4, z, rfl, hk, rfl, hz, hin, hL, hRL, hO, h1, h2, hb⟩ := hrel; have HIN4 := Lib.hid hin; have HL := Lib.hid hL; have HRL := Lib.hid hRL; have HO4 := Lib.hid hO; have G1 := Lib.hid h1; have G2 := Lib.hid h2; have HB := Lib.hid hb; have hws := hb.size; obtain ⟨a0, a1, f0, f1, hp⟩ := off_cells h1; clear hin hL hRL hO h1 h2 hb; have FIN : R = (o4, L) → Hid (R = (o4, L)) := fun h => h
    by_cases hlt : k < N
    · have hl0 : (k : Int) < (N : Int) := by omega
      cases o4 with
      | none =>
        simp only [atI] at hz; subst hz; have HF := FIN (by rw [HRL.out]; exact snL_none _ _ _); clear FIN HRL; obtain ⟨q1, q2, q3, q4, q5, q6, q7, q8⟩ := off_fin G2.out (Nat.le_succ _) HB.out (.slice A n c) (.int .i64 (-1)); have HE := Lib.hid (HO4.out.keptK (staysX_mk (by decide)) (by decide) q3 (fun i hi => by omega)); have HQ1 := Lib.hid q1; have HQ2 := Lib.hid q2; clear q1 q2 q3
        go_wp2_with fail
        refine bodyPost_ret (results_cell2 rfl _ _ (w.heap.size + 1) _ _ _ _ rfl HQ1.out Try.underlying78 rfl (by kernel_rfl)) rfl ?_; rw [HF.out]; exact ⟨A4, k, c4, by first | rfl | (rw [HZ.out]; rfl), HL.out.symm, HIN4.out, OwnE.base lower_mko HE.out (by omega), HQ2.out⟩
      | some m =>
        simp only [atI] at hz; subst hz; have hm0 : (0 : Int) ≤ (m : Int) := by omega
        clear FIN
        go_wp2_with fail
        obtain ⟨MK, hMK⟩ : ∃ q, q = mkL l (some m) := ⟨_, rfl⟩; have HRL : Hid (R = snL l (N - (k + 1)) MK.1 (L ++ [MK.2])) := by
          show R = _
          rw [HRL.out, show N - k = (N - (k + 1)) + 1 by omega, snL, ← hMK]
        have h5 := HTK.out (some m) 1 wr HB.out HIN4.out (Nat.le_refl _) (by omega); rw [show atI (some m) = (m : Int) from rfl] at h5; refine h5.mono ?_; rintro e5 w5 ⟨rfl, hb5⟩; obtain ⟨o5, ho5⟩ : ∃ q, q = (tk l (some m) 1).1 := ⟨_, rfl⟩; obtain ⟨d5, hd5⟩ : ∃ q, q = (tk l (some m) 1).2 := ⟨_, rfl⟩; rw [← ho5, ← hd5]; have HQ5 : Hid (InB n o5) := by show InB _ _; rw [ho5]; exact HIN.out _ 1
        obtain ⟨z5, hz5⟩ : ∃ z, z = atI o5 := ⟨_, rfl⟩; rw [← hz5]; have HZ5 := Lib.hid hz5; have HD5 := Lib.hid hd5; have HO5 := Lib.hid ho5; have HB5 := Lib.hid (HB.out.trans (hb5.mono hws)); have hws5 := HB5.out.size; have HK5 := Lib.hid hb5; clear h5 hb5 ho5 hd5 hz5 a0 a1 f0 f1 hp
        go_wp2_with fail
        have hb55 : Below w5.heap.size w5 (w5.alloc (offO A n c z5)) := (Below.refl _ _).alloc (Nat.le_refl _) _; have h6 := HTK.out o5 2 _ (HB5.out.trans (hb55.mono hws5)) HQ5.out (by omega) (Nat.le_refl _); rw [← HZ5.out] at h6; refine h6.mono ?_; rintro e6 w6 ⟨rfl, hb6⟩; obtain ⟨o6, ho6⟩ : ∃ q, q = (tk l o5 2).1 := ⟨_, rfl⟩; obtain ⟨d6, hd6⟩ : ∃ q, q = (tk l o5 2).2 := ⟨_, rfl⟩; rw [← ho6, ← hd6]; have HQ6 : Hid (InB n o6) := by show InB _ _; rw [ho6]; exact HIN.out _ 2
        obtain ⟨z6, hz6⟩ : ∃ z, z = atI o6 := ⟨_, rfl⟩; rw [← hz6]; have HZ6 := Lib.hid hz6; have HD6 := Lib.hid hd6; have HO6 := Lib.hid ho6; have hbx6 := hb55.trans (hb6.mono hb55.size); have HB6 := Lib.hid (HB5.out.trans (hbx6.mono hws5)); have hws6 := HB6.out.size; have HK6 := Lib.hid (HK5.out.trans (hbx6.mono HK5.out.size)); clear h6 hb6 ho6 hd6 hz6 hb55 hbx6
        go_wp2_with fail
        have hb66 : Below w6.heap.size w6 (w6.alloc (offO A n c z6)) := (Below.refl _ _).alloc (Nat.le_refl _) _; have h7 := HTK.out o6 2 _ (HB6.out.trans (hb66.mono hws6)) HQ6.out (by omega) (Nat.le_refl _); rw [← HZ6.out] at h7; refine h7.mono ?_; rintro e7 w7 ⟨rfl, hb7⟩; obtain ⟨o7, ho7⟩ : ∃ q, q = (tk l o6 2).1 := ⟨_, rfl⟩; obtain ⟨d7, hd7⟩ : ∃ q, q = (tk l o6 2).2 := ⟨_, rfl⟩; rw [← ho7, ← hd7]; have HQ7 : Hid (InB n o7) := by show InB _ _; rw [ho7]; exact HIN.out _ 2
        obtain ⟨z7, hz7⟩ : ∃ z, z = atI o7 := ⟨_, rfl⟩; rw [← hz7]; have HZ7 := Lib.hid hz7; have HD7 := Lib.hid hd7; have HO7 := Lib.hid ho7; have hbx7 := hb66.trans (hb7.mono hb66.size); have HB7 := Lib.hid (HB6.out.trans (hbx7.mono hws6)); have hws7 := HB7.out.size; have HK7 := Lib.hid (HK6.out.trans (hbx7.mono HK6.out.size)); clear h7 hb7 ho7 hd7 hz7 hb66 hbx7
        go_wp2_with fail
        have hb77 : Below w7.heap.size w7 (w7.alloc (offO A n c z7)) := (Below.refl _ _).alloc (Nat.le_refl _) _; have h8 := HTK.out o7 2 _ (HB7.out.trans (hb77.mono hws7)) HQ7.out (by omega) (Nat.le_refl _); rw [← HZ7.out] at h8; refine h8.mono ?_; rintro e8 w8 ⟨rfl, hb8⟩; obtain ⟨o8, ho8⟩ : ∃ q, q = (tk l o7 2).1 := ⟨_, rfl⟩; obtain ⟨d8, hd8⟩ : ∃ q, q = (tk l o7 2).2 := ⟨_, rfl⟩; rw [← ho8, ← hd8]; have HQ8 : Hid (InB n o8) := by show InB _ _; rw [ho8]; exact HIN.out _ 2
        obtain ⟨z8, hz8⟩ : ∃ z, z = atI o8 := ⟨_, rfl⟩; rw [← hz8]; have HZ8 := Lib.hid hz8; have HD8 := Lib.hid hd8; have HO8 := Lib.hid ho8; have hbx8 := hb77.trans (hb8.mono hb77.size); have HB8 := Lib.hid (HB7.out.trans (hbx8.mono hws7)); have hws8 := HB8.out.size; have HK8 := Lib.hid (HK7.out.trans (hbx8.mono HK7.out.size)); clear h8 hb8 ho8 hd8 hz8 hb77 hbx8
        go_wp2_with fail
        obtain ⟨W8, hW8⟩ : ∃ W8, W8 = (w8.alloc (offO A n c z8)).alloc (.cells #[.int .i64 (d5 : Nat), .int .i64 (d6 : Nat), .int .i64 (d7 : Nat), .slice none 0 0] 58) := ⟨_, rfl⟩; rw [← hW8]; have hW8s : W8.heap.size = w8.heap.size + 2 := by rw [hW8]; simp
        have hb88 : Below w8.heap.size w8 W8 := by rw [hW8]; exact ((Below.refl _ _).alloc (Nat.le_refl _) _).alloc (by simp) _
        have I3 : Hid (W8.heap[w8.heap.size]? = some (offO A n c z8)) := by show _ = _; rw [hW8]; exact (heap_alloc_old _ _ (by simp)).trans (heap_alloc_new _ _)
        have I5 : Hid (W8.heap[w8.heap.size + 1]? = some (.cells #[.int .i64 (d5 : Nat), .int .i64 (d6 : Nat), .int .i64 (d7 : Nat), .slice none 0 0] 58 (0, 0))) := by show _ = _; rw [hW8]; simpa using heap_alloc_new (w8.alloc _) (.cells #[.int .i64 (d5 : Nat), .int .i64 (d6 : Nat), .int .i64 (d7 : Nat), .slice none 0 0] 58)
        have hKw : Below wr.heap.size wr W8 := HK8.out.trans (hb88.mono HK8.out.size); have hw8 := HK8.out.size; obtain ⟨RI, hRI⟩ : ∃ q, q = moL l d8 o8 [] := ⟨_, rfl⟩; have HMK : Hid (MK = (RI.1, ⟨(d5 : Nat), (d6 : Nat), (d7 : Nat), RI.2⟩)) := by
          show MK = _
          rw [hMK, mkL, mk4, hRI, ← HO5.out, ← HO6.out, ← HO7.out, ← HO8.out, ← HD5.out, ← HD6.out, ← HD7.out, ← HD8.out]
        have HRI := Lib.hid hRI; have HLT8 : Hid (d8 < 65536) := by show _ < _; rw [HD8.out]; exact HLT.out _ 2 (Nat.le_refl _)
        have HKW := Lib.hid hKw; have hp1 := (Array.getElem?_eq_some_iff.1 G1.out).1; have hp2 := (Array.getElem?_eq_some_iff.1 G2.out).1; have hd8 := HLT8.out; clear hW8 hb88 hKw hMK hRI HLT8 HK5 HK6 HK7 HK8 HO5 HO6 HO7 HO8 HD5 HD6 HD7 HD8 HZ5 HZ6 HZ7 HQ5 HQ6 HQ7 HB5 HB6 HB7 HB8 hws5 hws6 hws7; obtain ⟨wo, rfl⟩ : ∃ wo : World, wo = wr := ⟨_, rfl⟩
        go_loopw [16] (fun i wr => ∃ (z : Nat) (o9 : Option Nat) (y : Int) (A5 : Option Addr) (c5 : Nat) (Lm : List Int), i = .int .i64 z ∧ z ≤ d8 ∧ Hid (y = atI o9 ∧ InB n o9 ∧ Lm.length = z ∧ RI = moL l (d8 - z) o9 Lm ∧ OwnE EInt 1 3 wr (w8.heap.size + 1 + 1) (.slice A5 z c5) Lm ∧ wr.heap[w8.heap.size]? = some (offO A n c y) ∧ wr.heap[w8.heap.size + 1]? = some (.cells #[.int .i64 (d5 : Nat), .int .i64 (d6 : Nat), .int .i64 (d7 : Nat), .slice A5 z c5] 58 (0, 0)) ∧ Below wo.heap.size wo wr)) (fun i _ => d8 - (intOf i).toNat)
        case atStart => exact ⟨0, o8, z8, none, 0, [], rfl, Nat.zero_le _, HZ8.out, HQ8.out, rfl, HRI.out, OwnE.nil _ _, I3.out, I5.out, HKW.out⟩
        case round =>
          obtain ⟨z, o9, y, A5, c5, Lm, rfl, hz, hy, hin, hlm, hri, hom, h3, h5, hkk⟩ := hrel; have HIN9 := Lib.hid hin; have HLM := Lib.hid hlm; have HRI9 := Lib.hid hri; have HOM := Lib.hid hom; have J3 := Lib.hid h3; have J5 := Lib.hid h5; have HKK := Lib.hid hkk; have hwk := hkk.size; have HBk := Lib.hid (HB.out.trans (hkk.mono hws)); have hws9 := HBk.out.size; obtain ⟨a0, a1, f0, f1, hp3⟩ := off_cells h3; clear hin hlm hri hom h3 h5 hkk; have HEND : (RI = (o9, Lm)) → Hid (RI = (o9, Lm)) := fun h => h
          by_cases hlz : z < d8
          · have hl8 : (z : Int) < (d8 : Int) := by omega
            cases o9 with
            | none =>
              simp only [atI] at hy; subst hy; have HE := HEND (by rw [HRI9.out]; exact moL_none _ _ _); clear HEND HRI9; have HRLZ : Hid (R = snL l (N - (k + 1)) (none) (L ++ [⟨(d5 : Nat), (d6 : Nat), (d7 : Nat), Lm⟩])) := by show R = _; rw [HRL.out, HMK.out, HE.out]
              have hkk := HKK.out; have G1 := Lib.hid ((hkk.block _ (Array.getElem?_eq_some_iff.1 G1.out).1).trans G1.out); have G2 := Lib.hid ((hkk.block _ (Array.getElem?_eq_some_iff.1 G2.out).1).trans G2.out); have HO4 := Lib.hid (HO4.out.keptK (staysX_mk (by decide)) (by decide) (Kept.all (S := fun _ => False) hkk) (fun _ h => h.elim)); obtain ⟨b0, b1, g0, g1, hq1⟩ := off_cells G1.out; have hq2 := (Array.getElem?_eq_some_iff.1 G2.out).1; have e0 := cell_of_cells J5.out 0; have e1 := cell_of_cells J5.out 1; have e2 := cell_of_cells J5.out 2; have e3 := cell_of_cells J5.out 3; simp at e0 e1 e2 e3; have HEM : Hid (EMkO wr (w.heap.size + 1 + 1) ⟨(d5 : Nat), (d6 : Nat), (d7 : Nat), Lm⟩ [.int .i64 (d5 : Nat), .int .i64 (d6 : Nat), .int .i64 (d7 : Nat), .slice A5 z c5]) := ⟨A5, c5, by rw [HLM.out], by rw [HLM.out]; have := own_ints HOM.out; rw [HLM.out] at this; exact row_base6 this (by omega), by rw [HLM.out]; omega⟩; have HN1 : Hid (¬ (w.heap.size + 1 = w.heap.size ∨ Value.ownBlock (.slice A4 k c4) = some (w.heap.size + 1))) := by
                show ¬ _
                rintro (e | e)
                · omega
                · have := (HO4.out.lt _ e).1; omega
              have HLT4 : Hid (∀ i, i < w.heap.size → ¬ (i = w.heap.size ∨ Value.ownBlock (.slice A4 k c4) = some i)) := fun i hi => by
                rintro (e | e)
                · omega
                · have := (HO4.out.lt _ e).1; omega
              clear hkk
              go_wp2_with (first | ((with_reducible show wpList _ _ _ (⟨some 85, _, _, _, _, _⟩ :: _) _ _); refine wpList_more (S := fun i => i = w.heap.size) (q := w.heap.size + 1) elemMk (staysX_mk (by decide)) (staysX_mk (by decide)) (by decide) HO4.out HL.out HEM.out rfl ((((Kept.refl (fun i => i = w.heap.size) wr).setCell (p := ⟨w.heap.size, 0, none⟩) (.inl rfl) _).setCell (p := ⟨w.heap.size, 1, none⟩) (.inl rfl) _).alloc _) (fun i hi => by omega) (by omega) (by omega) rfl (.tmp 82) (.tmp 84) rfl rfl rfl (Src.new' _ wr.heap.size (by simp) [.int .i64 (d5 : Nat), .int .i64 (d6 : Nat), .int .i64 (d7 : Nat), .slice A5 z c5] _ 1 4 rfl (by simp [Value.oneCell'])) ?_; intro A7 c7 w7 ho7 hx7 hk7 hl7; have HO7 := Lib.hid ho7; have G17 := Lib.hid ((hl7 w.heap.size (by omega)).trans ((Below.heap_alloc _ _ _ (by simpa using hq1)).trans (off_set G1.out _ _))); have G27 := Lib.hid ((hk7.block (w.heap.size + 1) hq2 HN1.out).trans G2.out); have HB7 := Lib.hid (HBk.out.trans (hk7.below hws9 HLT4.out)); clear ho7 hx7 hk7 hl7) | fail)
              exact ⟨⟨k + 1, A7, c7, L ++ [⟨(d5 : Nat), (d6 : Nat), (d7 : Nat), Lm⟩], none, -1, by simp, by omega, rfl, by first | rfl | exact HY.out, HIN9.out, by simp [HL.out], HRLZ.out, HO7.out, G17.out, G27.out, HB7.out⟩, by simp only [intOf]; omega⟩
            | some m9 =>
              simp only [atI] at hy; subst hy; have hm9 : (0 : Int) ≤ (m9 : Int) := by omega
              clear HEND
              go_wp2_with fail
              have h9 := HTK.out (some m9) 2 wr HBk.out HIN9.out (by omega) (Nat.le_refl _); rw [show atI (some m9) = (m9 : Int) from rfl] at h9; refine h9.mono ?_; rintro e9 w9 ⟨rfl, hb9⟩; obtain ⟨oA, hoA⟩ : ∃ q, q = (tk l (some m9) 2).1 := ⟨_, rfl⟩; obtain ⟨dA, hdA⟩ : ∃ q, q = (tk l (some m9) 2).2 := ⟨_, rfl⟩; rw [← hoA, ← hdA]; have HRI9 : Hid (RI = moL l (d8 - (z + 1)) oA (Lm ++ [((dA : Nat) : Int)])) := by
                show RI = _
                rw [HRI9.out, show d8 - z = (d8 - (z + 1)) + 1 by omega, moL, ← hoA, ← hdA]
              have HQA : Hid (InB n oA) := by show InB _ _; rw [hoA]; exact HIN.out _ 2
              obtain ⟨zA, hzA⟩ : ∃ z, z = atI oA := ⟨_, rfl⟩; rw [← hzA]; have HZA := Lib.hid hzA; have J3 := Lib.hid ((hb9.block _ (Array.getElem?_eq_some_iff.1 J3.out).1).trans J3.out); have J5 := Lib.hid ((hb9.block _ (Array.getElem?_eq_some_iff.1 J5.out).1).trans J5.out); have HOM := Lib.hid (HOM.out.keptK keeps_ints (by decide) (Kept.all (S := fun _ => False) hb9) (fun _ h => h.elim)); have HKK := Lib.hid (HKK.out.trans (hb9.mono hwk)); have hw9 := HKK.out.size; obtain ⟨a0, a1, f0, f1, hp3⟩ := off_cells J3.out; have e3 := cell_of_cells J5.out 3; simp at e3; have hp5 := (Array.getElem?_eq_some_iff.1 J5.out).1; have HN5 : Hid (¬ (w8.heap.size + 1 = w8.heap.size ∨ Value.ownBlock (.slice A5 z c5) = some (w8.heap.size + 1))) := by
                show ¬ _
                rintro (e | e)
                · omega
                · have := (HOM.out.lt _ e).1; omega
              have HLTM : Hid (∀ i, i < wo.heap.size → ¬ (i = w8.heap.size ∨ Value.ownBlock (.slice A5 z c5) = some i)) := fun i hi => by
                rintro (e | e)
                · omega
                · have := (HOM.out.lt _ e).1; omega
              clear h9 hb9 hoA hdA hzA hwk
              go_wp2_with (first | ((with_reducible show wpList _ _ _ (⟨some 79, _, _, _, _, _⟩ :: _) _ _); refine wpList_more (S := fun i => i = w8.heap.size) (q := w8.heap.size + 1) (x := ((dA : Nat) : Int)) (cs := [.int .i64 (dA : Nat)]) elemI keeps_ints keeps_ints (by decide) HOM.out HLM.out rfl rfl (((((Kept.refl (fun i => i = w8.heap.size) w9).setCell (p := ⟨w8.heap.size, 0, none⟩) (.inl rfl) _).setCell (p := ⟨w8.heap.size, 1, none⟩) (.inl rfl) _).alloc _).alloc _) (fun i hi => by omega) (by omega) (by omega) rfl (.tmp 76) (.tmp 78) rfl rfl rfl (Src.new' _ (w9.heap.size + 1) (by simp) [.int .i64 (dA : Nat)] _ 1 1 rfl (by simp [Value.oneCell'])) ?_; intro A6 c6 wB hoB hxB hkB hlB; have HOB := Lib.hid hoB; have J3B := Lib.hid ((hlB w8.heap.size (by omega)).trans ((Below.heap_alloc _ _ _ (by simp; omega)).trans ((Below.heap_alloc _ _ _ (by simpa using hp3)).trans (off_set J3.out _ _)))); have j5b := (hkB.block (w8.heap.size + 1) hp5 HN5.out).trans J5.out; have J5B := Lib.hid j5b; have HKB := Lib.hid (HKK.out.trans (hkB.below hw9 HLTM.out)); have e3 := cell_of_cells j5b 3; have fe3 := frozen_of_row wB _ 3 _ _ j5b; simp at e3; clear hoB hxB hkB hlB j5b) | fail)
              have hKS : Kept (fun i => i = w8.heap.size + 1) wB (wB.setCell ⟨w8.heap.size + 1, 3, none⟩ (.slice A6 (z + 1) c6)) := (Kept.refl (fun i => i = w8.heap.size + 1) _).setCell (p := ⟨w8.heap.size + 1, 3, none⟩) (.inl rfl) _; refine ⟨⟨z + 1, oA, zA, A6, c6, Lm ++ [((dA : Nat) : Int)], by simp, by omega, HZA.out, HQA.out, by simp [HLM.out], HRI9.out, HOB.out.keptK keeps_ints (by decide) hKS (fun i hi => by omega), (hKS.block _ (Array.getElem?_eq_some_iff.1 J3B.out).1 (by omega)).trans J3B.out, ?_, HKB.out.trans (hKS.below HKB.out.size (fun i hi e => by omega))⟩, by simp only [intOf]; omega⟩; rw [heap_setCell_same wB (w8.heap.size + 1) 3 _ _ _ J5B.out]; rfl
          · have hzd : z = d8 := by omega
            subst hzd; have HE := HEND (by rw [HRI9.out, Nat.sub_self, moL]); have HY := Lib.hid hy; clear HEND HRI9 hy; have HRLZ : Hid (R = snL l (N - (k + 1)) (o9) (L ++ [⟨(d5 : Nat), (d6 : Nat), (d7 : Nat), Lm⟩])) := by show R = _; rw [HRL.out, HMK.out, HE.out]
            have hkk := HKK.out; have G1 := Lib.hid ((hkk.block _ (Array.getElem?_eq_some_iff.1 G1.out).1).trans G1.out); have G2 := Lib.hid ((hkk.block _ (Array.getElem?_eq_some_iff.1 G2.out).1).trans G2.out); have HO4 := Lib.hid (HO4.out.keptK (staysX_mk (by decide)) (by decide) (Kept.all (S := fun _ => False) hkk) (fun _ h => h.elim)); obtain ⟨b0, b1, g0, g1, hq1⟩ := off_cells G1.out; have hq2 := (Array.getElem?_eq_some_iff.1 G2.out).1; have e0 := cell_of_cells J5.out 0; have e1 := cell_of_cells J5.out 1; have e2 := cell_of_cells J5.out 2; have e3 := cell_of_cells J5.out 3; simp at e0 e1 e2 e3; have HEM : Hid (EMkO wr (w.heap.size + 1 + 1) ⟨(d5 : Nat), (d6 : Nat), (d7 : Nat), Lm⟩ [.int .i64 (d5 : Nat), .int .i64 (d6 : Nat), .int .i64 (d7 : Nat), .slice A5 z c5]) := ⟨A5, c5, by rw [HLM.out], by rw [HLM.out]; have := own_ints HOM.out; rw [HLM.out] at this; exact row_base6 this (by omega), by rw [HLM.out]; omega⟩; have HN1 : Hid (¬ (w.heap.size + 1 = w.heap.size ∨ Value.ownBlock (.slice A4 k c4) = some (w.heap.size + 1))) := by
              show ¬ _
              rintro (e | e)
              · omega
              · have := (HO4.out.lt _ e).1; omega
            have HLT4 : Hid (∀ i, i < w.heap.size → ¬ (i = w.heap.size ∨ Value.ownBlock (.slice A4 k c4) = some i)) := fun i hi => by
              rintro (e | e)
              · omega
              · have := (HO4.out.lt _ e).1; omega
            clear hkk
            go_wp2_with (first | ((with_reducible show wpList _ _ _ (⟨some 85, _, _, _, _, _⟩ :: _) _ _); refine wpList_more (S := fun i => i = w.heap.size) (q := w.heap.size + 1) elemMk (staysX_mk (by decide)) (staysX_mk (by decide)) (by decide) HO4.out HL.out HEM.out rfl ((((Kept.refl (fun i => i = w.heap.size) wr).setCell (p := ⟨w.heap.size, 0, none⟩) (.inl rfl) _).setCell (p := ⟨w.heap.size, 1, none⟩) (.inl rfl) _).alloc _) (fun i hi => by omega) (by omega) (by omega) rfl (.tmp 82) (.tmp 84) rfl rfl rfl (Src.new' _ wr.heap.size (by simp) [.int .i64 (d5 : Nat), .int .i64 (d6 : Nat), .int .i64 (d7 : Nat), .slice A5 z c5] _ 1 4 rfl (by simp [Value.oneCell'])) ?_; intro A7 c7 w7 ho7 hx7 hk7 hl7; have HO7 := Lib.hid ho7; have G17 := Lib.hid ((hl7 w.heap.size (by omega)).trans ((Below.heap_alloc _ _ _ (by simpa using hq1)).trans (off_set G1.out _ _))); have G27 := Lib.hid ((hk7.block (w.heap.size + 1) hq2 HN1.out).trans G2.out); have HB7 := Lib.hid (HBk.out.trans (hk7.below hws9 HLT4.out)); clear ho7 hx7 hk7 hl7) | fail)
            exact ⟨⟨k + 1, A7, c7, L ++ [⟨(d5 : Nat), (d6 : Nat), (d7 : Nat), Lm⟩], o9, y, by simp, by omega, rfl, by first | rfl | exact HY.out, HIN9.out, by simp [HL.out], HRLZ.out, HO7.out, G17.out, G27.out, HB7.out⟩, by simp only [intOf]; omega⟩
    · have hkN : k = N := by omega
      subst hkN; have HF := FIN (by rw [HRL.out, Nat.sub_self, snL]); have HZ := Lib.hid hz; clear FIN HRL hz; obtain ⟨q1, q2, q3, q4, q5, q6, q7, q8⟩ := off_fin G2.out (Nat.le_succ _) HB.out (.slice A n c) (.int .i64 (z)); have HE := Lib.hid (HO4.out.keptK (staysX_mk (by decide)) (by decide) q3 (fun i hi => by omega)); have HQ1 := Lib.hid q1; have HQ2 := Lib.hid q2; clear q1 q2 q3
      go_wp2_with fail
      refine bodyPost_ret (results_cell2 rfl _ _ (w.heap.size + 1) _ _ _ _ rfl HQ1.out Try.underlying78 rfl (by kernel_rfl)) rfl ?_; rw [HF.out]; exact ⟨A4, k, c4, by first | rfl | (rw [HZ.out]; rfl), HL.out.symm, HIN4.out, OwnE.base lower_mko HE.out (by omega), HQ2.out⟩
end Go.Proofs.Ytcnlgcmooegfkaa
namespace Go.Proofs.Ytcnlgcmooegfkaa
open Go.RowKit Mg Sn

theorem nxL_len (b : List UInt8) : ∀ (k : Nat) (o : Option Nat) (l : List Nx), (nxL b k o l).2.length ≤ l.length + k
  | 0, _, l => by simp [nxL]
  | k + 1, none, l => by simp [nxL]
  | k + 1, some n, l => by
    rw [nxL]; refine Nat.le_trans (nxL_len b k _ _) ?_; rw [List.length_append, List.length_singleton]; omega
theorem hdL_len (b : List UInt8) : ∀ (k : Nat) (o : Option Nat) (l : List Ms), (hdL b k o l).2.length ≤ l.length + k
  | 0, _, l => by simp [hdL]
  | k + 1, none, l => by simp [hdL]
  | k + 1, some n, l => by
    rw [hdL]
    split
    · simp
    · split
      · simp
      · refine Nat.le_trans (hdL_len b k _ _) ?_; rw [List.length_append, List.length_singleton]; omega
theorem snL_len (b : List UInt8) : ∀ (k : Nat) (o : Option Nat) (l : List Mk), (snL b k o l).2.length ≤ l.length + k
  | 0, _, l => by simp [snL]
  | k + 1, none, l => by simp [snL]
  | k + 1, some n, l => by
    rw [snL]; refine Nat.le_trans (snL_len b k _ _) ?_; rw [List.length_append, List.length_singleton]; omega
theorem rget_ret0 {w WR : World} {R : Option St} {act : Act} (hR : R = none) (g2 : WR.heap[w.heap.size]? = some (.cells #[.int .i64 0, .int .i64 0, .slice none 0 0, .slice none 0 0, .slice none 0 0] 26 (0, 0))) (hb : Below w.heap.size w WR)
    (hd : act.defers = []) (h2 : act.tmps.getD 2 undef = .pointer (some ⟨w.heap.size, 0, none⟩)) (h3 : act.tmps.getD 3 undef = .int .i64 2) :
    bodyPost Try.prog Try.f17 (fun e w' => Below w.heap.size w w' ∧ GetR w' w.heap.size R e) .ret act (((((WR.setCell ⟨w.heap.size, 0, none⟩ (.int .i64 0)).setCell ⟨w.heap.size, 1, none⟩ (.int .i64 0)).setCell ⟨w.heap.size, 2, none⟩ (.slice none 0 0)).setCell ⟨w.heap.size, 3, none⟩ (.slice none 0 0)).setCell ⟨w.heap.size, 4, none⟩ (.slice none 0 0)) := by
  have hst := sets_heap0 (vs := [.int .i64 0, .int .i64 0, .slice none 0 0, .slice none 0 0, .slice none 0 0]) (us := [.int .i64 0, .int .i64 0, .slice none 0 0, .slice none 0 0, .slice none 0 0]) g2 rfl; have hbe := sets_below (Nat.le_refl w.heap.size) [.int .i64 0, .int .i64 0, .slice none 0 0, .slice none 0 0, .slice none 0 0] 0 WR hb; simp only [sets, Nat.zero_add, Nat.reduceAdd] at hst hbe; refine bodyPost_ret (results_cell2 rfl _ _ w.heap.size _ _ _ _ h2 hst Try.underlying26 rfl (by kernel_rfl)) hd ?_; rw [h3, hR]; exact ⟨hbe, rfl⟩
theorem rget_ret1 {w WR : World} {R : Option St} {S : St} {v : Sv} {B : Nat} {act : Act} {x0 x1 x2 x3 x4 : Value} (hR : R = some S) (hv : stv S v = .agg #[x0, x1, x2, x3, x4]) (hrd : RdS WR B v S) (hB : w.heap.size < B)
    (g2 : WR.heap[w.heap.size]? = some (.cells #[.int .i64 0, .int .i64 0, .slice none 0 0, .slice none 0 0, .slice none 0 0] 26 (0, 0))) (hb : Below w.heap.size w WR)
    (hd : act.defers = []) (h2 : act.tmps.getD 2 undef = .pointer (some ⟨w.heap.size, 0, none⟩)) (h3 : act.tmps.getD 3 undef = .int .i64 0) :
    bodyPost Try.prog Try.f17 (fun e w' => Below w.heap.size w w' ∧ GetR w' w.heap.size R e) .ret act (((((WR.setCell ⟨w.heap.size, 0, none⟩ x0).setCell ⟨w.heap.size, 1, none⟩ x1).setCell ⟨w.heap.size, 2, none⟩ x2).setCell ⟨w.heap.size, 3, none⟩ x3).setCell ⟨w.heap.size, 4, none⟩ x4) := by
  have hst := sets_heap0 (vs := [x0, x1, x2, x3, x4]) (us := [.int .i64 0, .int .i64 0, .slice none 0 0, .slice none 0 0, .slice none 0 0]) g2 rfl; have hbe := sets_below (Nat.le_refl w.heap.size) [x0, x1, x2, x3, x4] 0 WR hb; have hoth := fun q hq => sets_other (q := w.heap.size) [x0, x1, x2, x3, x4] 0 WR q hq
  have hszz : (sets w.heap.size 0 [x0, x1, x2, x3, x4] WR).heap.size = WR.heap.size := by simp [sets]
  have hr := (hrd.keep (Nat.le_of_eq hszz.symm) (fun q hq _ => hoth q (by omega))).lower (B' := w.heap.size) (by omega); simp only [sets, Nat.zero_add, Nat.reduceAdd] at hst hbe hr; refine bodyPost_ret (results_cell2 rfl _ _ w.heap.size _ _ _ _ h2 hst Try.underlying26 rfl (by kernel_rfl)) hd ?_; rw [h3, hR]; exact ⟨hbe, v, by rw [hv], hr⟩
theorem rget_retA {w W : World} {R : Option St} {act : Act} (hR : R = none) (hz : W.heap[w.heap.size]? = some (.cells #[.int .i64 0, .int .i64 0, .slice none 0 0, .slice none 0 0, .slice none 0 0] 26 (0, 0))) (hb : Below w.heap.size w W)
    (hd : act.defers = []) (h2 : act.tmps.getD 2 undef = .pointer (some ⟨w.heap.size, 0, none⟩)) (h3 : act.tmps.getD 3 undef = .int .i64 2) :
    bodyPost Try.prog Try.f17 (fun e w' => Below w.heap.size w w' ∧ GetR w' w.heap.size R e) .ret act W := by
  refine bodyPost_ret (results_cell2 rfl _ _ w.heap.size _ _ _ _ h2 hz Try.underlying26 rfl (by kernel_rfl)) hd ?_; rw [h3, hR]; exact ⟨hb, rfl⟩
theorem kept_false {w w' : World} (h : Below w.heap.size w w') : Kept (fun _ => False) w w' := Kept.all h
set_option maxRecDepth 100000 in
set_option maxHeartbeats 8000000 in
theorem rget_st (A : Option Addr) (n c : Nat) (l : List UInt8) (w : World) (hR : Rd w A n c l) :
    Calls Try.prog 17 #[.slice A n c] w fun e w' => Below w.heap.size w w' ∧ GetR w' w.heap.size (getS l) e := by
  have HTK := Lib.hid (fun (q : Option Nat) (k : Nat) W (h : Below w.heap.size w W) (hq : InB n q) (h1 : 1 ≤ k) (h2 : k ≤ 2) => rtake_any A n c l q k W (hR.below h) hq h1 h2); have HNX := Lib.hid (fun (q : Option Nat) W (h : Below w.heap.size w W) (hq : InB n q) => rnexts_off A n c l q W (hR.below h) hq); have HHD := Lib.hid (fun (q : Option Nat) W (h : Below w.heap.size w W) (hq : InB n q) => rhelds_off A n c l q W (hR.below h) hq); have HSN := Lib.hid (fun (q : Option Nat) W (h : Below w.heap.size w W) (hq : InB n q) => rmarks_off A n c l q W (hR.below h) hq); have HIN := Lib.hid (fun (q : Option Nat) (k : Nat) => tk_in (o := q) (k := k) hR.len); have HRD := Lib.hid (fun W (h : Below w.heap.size w W) => str_of (hR.below h)); unfold offv at HTK HNX HHD HSN; obtain ⟨o1, ho1⟩ : ∃ q, q = (tk l (some 0) 1).1 := ⟨_, rfl⟩; obtain ⟨d1, hd1⟩ : ∃ q, q = (tk l (some 0) 1).2 := ⟨_, rfl⟩; obtain ⟨o2, ho2⟩ : ∃ q, q = (tk l o1 2).1 := ⟨_, rfl⟩; obtain ⟨d2, hd2⟩ : ∃ q, q = (tk l o1 2).2 := ⟨_, rfl⟩; obtain ⟨o3, ho3⟩ : ∃ q, q = (nxsL l o2).1 := ⟨_, rfl⟩; obtain ⟨nx, hnx⟩ : ∃ q, q = (nxsL l o2).2 := ⟨_, rfl⟩; obtain ⟨o4, ho4⟩ : ∃ q, q = (hdsL l o3).1 := ⟨_, rfl⟩; obtain ⟨hd, hhd⟩ : ∃ q, q = (hdsL l o3).2 := ⟨_, rfl⟩; obtain ⟨o5, ho5⟩ : ∃ q, q = (snsL l o4).1 := ⟨_, rfl⟩; obtain ⟨sn, hsn⟩ : ∃ q, q = (snsL l o4).2 := ⟨_, rfl⟩; have HG : Hid (getS l = if o5 = none then none else if ck ⟨d1, d2, nx, hd, sn⟩ ≠ 0 ∨ ptB ⟨d1, d2, nx, hd, sn⟩ ≠ l then none else some ⟨d1, d2, nx, hd, sn⟩) := by
    show _ = _
    have e : rparse l = (o5, ⟨d1, d2, nx, hd, sn⟩) := by rw [rparse, rp2, ho5, hsn, ho4, hhd, ho3, hnx, ho2, hd2, ho1, hd1]
    rw [← rgetS_eq, rgetS, e]
  have hl1 : nx.length ≤ 65536 := by rw [hnx]; have := nxL_len l (tk l o2 1).2 (tk l o2 1).1 []; have := tk_lt l o2 1 (by omega); unfold nxsL; simp only [List.length_nil] at *; omega
  have hl2 : hd.length ≤ 65536 := by rw [hhd]; have := hdL_len l (tk l o3 2).2 (tk l o3 2).1 []; have := tk_lt l o3 2 (by omega); unfold hdsL; simp only [List.length_nil] at *; omega
  have hl3 : sn.length ≤ 65536 := by rw [hsn]; have := snL_len l (tk l o4 2).2 (tk l o4 2).1 []; have := tk_lt l o4 2 (by omega); unfold snsL; simp only [List.length_nil] at *; omega
  have HPT := Lib.hid (fun (v : Sv) B W h => rput_st ⟨d1, d2, nx, hd, sn⟩ v B W h); obtain ⟨CK, hCK⟩ : ∃ q, q = ck ⟨d1, d2, nx, hd, sn⟩ := ⟨_, rfl⟩; obtain ⟨PB, hPB⟩ : ∃ q, q = ptB ⟨d1, d2, nx, hd, sn⟩ := ⟨_, rfl⟩; rw [← hCK, ← hPB] at HPT HG; have hPBl : PB.length ≤ 1600004 := by
    rw [hPB, ptB]
    split
    · rename_i h
      have := ptB_len h
      rwa [ptB, if_pos h] at this
    · simp
  unfold stv at HPT; simp only at HPT; obtain ⟨R, hRR⟩ : ∃ R, R = getS l := ⟨_, rfl⟩; rw [← hRR] at HG ⊢; have h1 := fun W h => HTK.out (some 0) 1 W h (fun m e => by injection e with e; omega) (Nat.le_refl _) (by omega)
  rw [← ho1, ← hd1, show atI (some 0) = 0 from rfl] at h1; have hq1 : InB n o1 := by rw [ho1]; exact HIN.out _ 1
  have h2 := fun W h => HTK.out o1 2 W h hq1 (by omega) (Nat.le_refl _)
  rw [← ho2, ← hd2] at h2; have hq2 : InB n o2 := by rw [ho2]; exact HIN.out _ 2
  have h3 := fun W h => HNX.out o2 W h hq2
  rw [← ho3, ← hnx] at h3; have h4 := fun W h hq => HHD.out o3 W h hq
  rw [← ho4, ← hhd] at h4; have h5 := fun W h hq => HSN.out o4 W h hq
  rw [← ho5, ← hsn] at h5; obtain ⟨z1, hz1⟩ : ∃ z, z = atI o1 := ⟨_, rfl⟩; obtain ⟨z2, hz2⟩ : ∃ z, z = atI o2 := ⟨_, rfl⟩; obtain ⟨z3, hz3⟩ : ∃ z, z = atI o3 := ⟨_, rfl⟩; obtain ⟨z4, hz4⟩ : ∃ z, z = atI o4 := ⟨_, rfl⟩; obtain ⟨z5, hz5⟩ : ∃ z, z = atI o5 := ⟨_, rfl⟩; rw [← hz1] at h1 h2; rw [← hz2] at h2 h3; rw [← hz3] at h3 h4; rw [← hz4] at h4 h5; rw [← hz5] at h5; have H1 := Lib.hid h1; have H2 := Lib.hid h2; have H3 := Lib.hid h3; have H4 := Lib.hid h4; have H5 := Lib.hid h5; have HZ5 := Lib.hid hz5; clear h1 h2 h3 h4 h5 hz1 hz2 hz3 hz4 hz5 ho1 hd1 ho2 hd2 ho3 hnx ho4 hhd ho5 hsn hCK hPB hRR hq1 hq2 HTK HNX HHD HSN HIN hR
  go_enter Try.func17, Try.ntmps17
  go_wp2_with fail
  have hB0 : Below w.heap.size w (w.alloc (.cells #[.int .i64 0, .int .i64 0, .slice none 0 0, .slice none 0 0, .slice none 0 0] 26)) := (Below.refl _ _).alloc (Nat.le_refl _) _; have g0 := heap_alloc_new w (.cells #[.int .i64 0, .int .i64 0, .slice none 0 0, .slice none 0 0, .slice none 0 0] 26); refine (H1.out _ hB0).mono ?_; rintro e1 w1 ⟨rfl, hb1⟩; have hs0 : w.heap.size < w1.heap.size := by have := hb1.size; simp at this; omega
  have G1 := Lib.hid ((hb1.block w.heap.size (by simp)).trans g0); have HB1 := Lib.hid (hB0.trans (hb1.mono (by simp))); clear hb1 g0 hB0
  go_wp2_with fail
  have hb1P : Below w1.heap.size w1 (w1.alloc (offO A n c z1)) := (Below.refl _ _).alloc (Nat.le_refl _) _; have hsw1 := HB1.out.size; refine (H2.out _ (HB1.out.trans (hb1P.mono hsw1))).mono ?_; rintro e2 w2 ⟨rfl, hbq⟩; have hb2 := hb1P.trans (hbq.mono hb1P.size); have hs2 := hb2.size; have G2 := Lib.hid ((hb2.block w.heap.size (by omega)).trans G1.out); have HB2 := Lib.hid (HB1.out.trans (hb2.mono hsw1)); clear hbq hb1P hb2
  go_wp2_with fail
  have hb2P : Below w2.heap.size w2 (w2.alloc (offO A n c z2)) := (Below.refl _ _).alloc (Nat.le_refl _) _; have hsw2 := HB2.out.size; refine (H3.out _ (HB2.out.trans (hb2P.mono hsw2))).mono ?_; rintro e3 w3 ⟨A1, n1, c1, rfl, hn1, hin3, ho, hbq⟩; have hb3 := hb2P.trans (hbq.mono hb2P.size); have hs3 := hb3.size; have G3 := Lib.hid ((hb3.block w.heap.size (by omega)).trans G2.out); have HB3 := Lib.hid (HB2.out.trans (hb3.mono hsw2)); have HO1 := Lib.hid (OwnE.base lower_nx ho (show w.heap.size + 1 ≤ _ by simp; omega)); have HN1 := Lib.hid hn1; have HQ3 := Lib.hid hin3; clear ho hn1 hin3; clear hbq hb2P hb3
  go_wp2_with fail
  have hb3P : Below w3.heap.size w3 (w3.alloc (offO A n c z3)) := (Below.refl _ _).alloc (Nat.le_refl _) _; have hsw3 := HB3.out.size; refine (H4.out _ (HB3.out.trans (hb3P.mono hsw3)) HQ3.out).mono ?_; rintro e4 w4 ⟨A2, n2, c2, rfl, hn2, hin4, ho, hbq⟩; have hb4 := hb3P.trans (hbq.mono hb3P.size); have hs4 := hb4.size; have G4 := Lib.hid ((hb4.block w.heap.size (by omega)).trans G3.out); have HB4 := Lib.hid (HB3.out.trans (hb4.mono hsw3)); have HO1 := Lib.hid (HO1.out.keptK (staysX_nx _) (by decide) (kept_false hb4) (fun _ h => h.elim)); have HO2 := Lib.hid (OwnE.base lower_mso ho (show w.heap.size + 1 ≤ _ by simp; omega)); have HN2 := Lib.hid hn2; have HQ4 := Lib.hid hin4; clear ho hn2 hin4; clear hbq hb3P hb4
  go_wp2_with fail
  have hb4P : Below w4.heap.size w4 (w4.alloc (offO A n c z4)) := (Below.refl _ _).alloc (Nat.le_refl _) _; have hsw4 := HB4.out.size; refine (H5.out _ (HB4.out.trans (hb4P.mono hsw4)) HQ4.out).mono ?_; rintro e5 w5 ⟨A3, n3, c3, rfl, hn3, hin5, ho, hbq⟩; have hb5 := hb4P.trans (hbq.mono hb4P.size); have hs5 := hb5.size; have G5 := Lib.hid ((hb5.block w.heap.size (by omega)).trans G4.out); have HB5 := Lib.hid (HB4.out.trans (hb5.mono hsw4)); have HO1 := Lib.hid (HO1.out.keptK (staysX_nx _) (by decide) (kept_false hb5) (fun _ h => h.elim)); have HO2 := Lib.hid (HO2.out.keptK (staysX_ms (by decide)) (by decide) (kept_false hb5) (fun _ h => h.elim)); have HO3 := Lib.hid (OwnE.base lower_mko ho (show w.heap.size + 1 ≤ _ by simp; omega)); have HN3 := Lib.hid hn3; clear ho hn3 hin5; clear hbq hb4P hb5; have hp0 : w.heap.size < w5.heap.size := (Array.getElem?_eq_some_iff.1 G5.out).1
  cases o5 with
  | none =>
    have hz := HZ5.out; simp only [atI] at hz; subst hz; have HRN : Hid (R = none) := by show R = _; rw [HG.out, if_pos rfl]
    have r0 := cell_of_cells G5.out 0; have r1 := cell_of_cells G5.out 1; have r2 := cell_of_cells G5.out 2; have r3 := cell_of_cells G5.out 3; have r4 := cell_of_cells G5.out 4; simp at r0 r1 r2 r3 r4; have f0 := frozen_of_row w5 w.heap.size 0 _ _ G5.out; have f1 := frozen_of_row w5 w.heap.size 1 _ _ G5.out; have f2 := frozen_of_row w5 w.heap.size 2 _ _ G5.out; have f3 := frozen_of_row w5 w.heap.size 3 _ _ G5.out; have f4 := frozen_of_row w5 w.heap.size 4 _ _ G5.out; obtain ⟨vs, hvs⟩ : ∃ vs : List Value, vs = [.int .i64 0, .int .i64 0, .slice none 0 0, .slice none 0 0, .slice none 0 0] := ⟨_, rfl⟩; have hst := sets_heap0 (vs := vs) (us := [.int .i64 0, .int .i64 0, .slice none 0 0, .slice none 0 0, .slice none 0 0]) G5.out (by rw [hvs]); have hbe := sets_below (Nat.le_refl w.heap.size) vs 0 w5 HB5.out; have hsz := sets_size (q := w.heap.size) vs 0 w5; have HST := Lib.hid (fun o o' => (heap_alloc_old _ o' (by simp only [World.alloc, Array.size_push, hsz]; omega)).trans ((heap_alloc_old _ o (by rw [hsz]; exact hp0)).trans hst)); have HBE := Lib.hid (fun o o' => (hbe.alloc (by rw [hsz]; omega) o).alloc (by simp only [World.alloc, Array.size_push, hsz]; omega) o'); subst hvs; simp only [sets, Nat.zero_add, Nat.reduceAdd] at HST HBE; clear hst hbe hsz
    go_wp2_with (first | ((with_reducible show (_ : Exit → Act → World → Prop) Exit.ret _ _); (try simp only [Exit.inBlock, Exit.then]); exact rget_retA HRN.out (HST.out _ _) (HBE.out _ _) rfl rfl rfl) | fail)
  | some m =>
    have hz := HZ5.out; simp only [atI] at hz; subst hz; have t5 : decide ((m : Int) < 0) = false := by simp
    obtain ⟨W9, hW9⟩ : ∃ W9, W9 = (w5.alloc (offO A n c m)).alloc (.cells #[.int .i64 d1, .int .i64 d2, .slice A1 n1 c1, .slice A2 n2 c2, .slice A3 n3 c3] 26) := ⟨_, rfl⟩; have hb9 : Below w5.heap.size w5 W9 := by rw [hW9]; exact ((Below.refl _ _).alloc (Nat.le_refl _) _).alloc (by simp) _
    have HS9 : Hid (W9.heap[w5.heap.size + 1]? = some (.cells #[.int .i64 d1, .int .i64 d2, .slice A1 n1 c1, .slice A2 n2 c2, .slice A3 n3 c3] 26 (0, 0))) := by show _ = _; rw [hW9]; simpa using heap_alloc_new (w5.alloc _) (.cells #[.int .i64 d1, .int .i64 d2, .slice A1 n1 c1, .slice A2 n2 c2, .slice A3 n3 c3] 26)
    have hs9 : W9.heap.size = w5.heap.size + 2 := by rw [hW9]; simp
    have G9 := Lib.hid ((hb9.block w.heap.size hp0).trans G5.out); have HB9 := Lib.hid (HB5.out.trans (hb9.mono HB5.out.size)); have ho1 := HO1.out.keptK (staysX_nx _) (by decide) (kept_false hb9) (fun _ h => h.elim); have ho2 := HO2.out.keptK (staysX_ms (by decide)) (by decide) (kept_false hb9) (fun _ h => h.elim); have ho3 := HO3.out.keptK (staysX_mk (by decide)) (by decide) (kept_false hb9) (fun _ h => h.elim); have hrs : RdS W9 (w.heap.size + 1) ⟨A1, n1, c1, A2, n2, c2, A3, n3, c3⟩ ⟨d1, d2, nx, hd, sn⟩ := ⟨OwnE.rd (fun _ _ h => h) ho1 (show n1 ≤ _ by rw [HN1.out]; omega), OwnE.rd ms_of_own ho2 (show n2 ≤ _ by rw [HN2.out]; omega), OwnE.rd mk_of_own ho3 (show n3 ≤ _ by rw [HN3.out]; omega)⟩; have HRS := Lib.hid hrs; clear hb9 ho1 ho2 ho3 hrs HO1 HO2 HO3 HN1 HN2 HN3 hl1 hl2 hl3
    go_wp2_with fail
    rw [← hW9]; clear hW9; refine (HPT.out ⟨A1, n1, c1, A2, n2, c2, A3, n3, c3⟩ (w.heap.size + 1) W9 HRS.out).mono ?_; rintro e6 w6 ⟨Aq, nq, cq, rfl, hnq, hoq, hb6⟩; have G6 := (hb6.block w.heap.size (by omega)).trans G9.out; have HG6 := Lib.hid G6; have gs := (hb6.block (w5.heap.size + 1) (by omega)).trans HS9.out; have HB6 := Lib.hid (HB9.out.trans (hb6.mono (by omega))); have HRS6 := Lib.hid (HRS.out.below hb6); have hk1 := str_of (OwnB.rd hoq hnq.symm (by omega)); have hk2 := HRD.out w6 HB6.out; have hst : ((⟨PB.toArray⟩ : ByteArray).toList == (⟨l.toArray⟩ : ByteArray).toList) = decide (PB = l) := by
      rw [ByteArray.toList_eq, ByteArray.toList_eq, Bool.eq_iff_iff, beq_iff_eq, decide_eq_true_eq]
    obtain ⟨S1, hS1⟩ : ∃ x, x = (⟨PB.toArray⟩ : ByteArray) := ⟨_, rfl⟩; obtain ⟨S2, hS2⟩ : ∃ x, x = (⟨l.toArray⟩ : ByteArray) := ⟨_, rfl⟩; rw [← hS1] at hk1 hst; rw [← hS2] at hk2 hst; have r0 := cell_of_cells G6 0; have r1 := cell_of_cells G6 1; have r2 := cell_of_cells G6 2; have r3 := cell_of_cells G6 3; have r4 := cell_of_cells G6 4; have s0 := cell_of_cells gs 0; have s1 := cell_of_cells gs 1; have s2 := cell_of_cells gs 2; have s3 := cell_of_cells gs 3; have s4 := cell_of_cells gs 4; simp at r0 r1 r2 r3 r4 s0 s1 s2 s3 s4; have f0 := frozen_of_row w6 w.heap.size 0 _ _ G6; have f1 := frozen_of_row w6 w.heap.size 1 _ _ G6; have f2 := frozen_of_row w6 w.heap.size 2 _ _ G6; have f3 := frozen_of_row w6 w.heap.size 3 _ _ G6; have f4 := frozen_of_row w6 w.heap.size 4 _ _ G6; clear hS1 hS2 hnq hoq hb6 G6 gs HRS HS9 G9 HPT
    by_cases hc : CK = 0
    · by_cases hp : PB = l
      · have HRS1 : Hid (R = some ⟨d1, d2, nx, hd, sn⟩) := by show R = _; rw [HG.out, if_neg (by simp), if_neg (fun h => h.elim (fun h => h hc) (fun h => h hp))]
        rw [decide_eq_true hp] at hst; subst hc; clear hp HG
        go_wp2_with (first | ((with_reducible show (_ : Exit → Act → World → Prop) Exit.ret _ _); (try simp only [Exit.inBlock, Exit.then]); exact rget_ret1 HRS1.out rfl HRS6.out (Nat.lt_succ_self _) HG6.out HB6.out rfl rfl rfl) | fail)
      · have HRS1 : Hid (R = none) := by show R = _; rw [HG.out, if_neg (by simp), if_pos (.inr hp)]
        rw [decide_eq_false hp] at hst; subst hc; clear hp HG
        go_wp2_with (first | ((with_reducible show (_ : Exit → Act → World → Prop) Exit.ret _ _); (try simp only [Exit.inBlock, Exit.then]); exact rget_ret0 HRS1.out HG6.out HB6.out rfl rfl rfl) | fail)
    · have HRS1 : Hid (R = none) := by show R = _; rw [HG.out, if_neg (by simp), if_pos (.inl hc)]
      have tc : (CK != 0) = true := by simpa using hc
      clear hc HG
      go_wp2_with (first | ((with_reducible show (_ : Exit → Act → World → Prop) Exit.ret _ _); (try simp only [Exit.inBlock, Exit.then]); exact rget_ret0 HRS1.out HG6.out HB6.out rfl rfl rfl) | fail)
end Go.Proofs.Ytcnlgcmooegfkaa
namespace Go.Proofs.Ytcnlgcmooegfkaa
open Go.RowKit Mg Sn

def s00 : St := ⟨0, 0, [], [], []⟩
theorem GetR.st {w' : World} {B : Nat} {R : Option St} {e : Ending} (h : GetR w' B R e) : ∃ v, e = .returned (.tuple #[stv (R.getD s00) v, .int .i64 (if R = none then 2 else 0)]) ∧ RdS w' B v (R.getD s00) := by
  cases R with
  | none => exact ⟨⟨none, 0, 0, none, 0, 0, none, 0, 0⟩, by rw [show e = _ from h, if_pos rfl]; rfl, RdE.nil _ _ _ _, RdE.nil _ _ _ _, RdE.nil _ _ _ _⟩
  | some s =>
    obtain ⟨v, h1, h2⟩ := h; exact ⟨v, by rw [h1, if_neg (by simp)]; rfl, h2⟩
set_option maxRecDepth 100000 in
set_option maxHeartbeats 8000000 in
theorem sgets_law (A : Option Addr) (n c : Nat) (l : List UInt8) (w : World) (hR : Rd w A n c l) (hn : n ≤ 140737488351232) : Calls Try.prog 4 #[.slice A n c] w fun e w' => e = .returned (.bool true) ∧ Below w.heap.size w w' := by
  obtain ⟨s, hs⟩ : ∃ s, s = (getS l).getD s00 := ⟨_, rfl⟩; obtain ⟨E, hE⟩ : ∃ E : Int, E = if getS l = none then 2 else 0 := ⟨_, rfl⟩
  have HG : Hid (∀ W A2 c2, Rd W A2 n c2 l → Calls Try.prog 16 #[.slice A2 n c2] W fun e w' => ∃ v, e = .returned (.tuple #[stv s v, .int .i64 E]) ∧ RdS w' W.heap.size v s ∧ Below W.heap.size W w') := fun W A2 c2 h => by
    rw [hs, hE]; refine (sget_any A2 n c2 l W h).mono fun e w' hh => ?_
    obtain ⟨v, h1, h2⟩ := hh.2.st; exact ⟨v, h1, h2, hh.1⟩
  have HRG : Hid (∀ W, Rd W A n c l → Calls Try.prog 17 #[.slice A n c] W fun e w' => ∃ v, e = .returned (.tuple #[stv s v, .int .i64 E]) ∧ RdS w' W.heap.size v s ∧ Below W.heap.size W w') := fun W h => by
    rw [hs, hE]; refine (rget_st A n c l W h).mono fun e w' hh => ?_
    obtain ⟨v, h1, h2⟩ := hh.2.st; exact ⟨v, h1, h2, hh.1⟩
  have HSS := Lib.hid (fun (v1 v2 : Sv) B1 B2 W (h1 : RdS W B1 v1 s) (h2 : RdS W B2 v2 s) => rsamestate_any s s v1 v2 B1 B2 W h1 h2); simp only [decide_true] at HSS; obtain ⟨RS, hRS⟩ : ∃ RS, RS = fun (W : World) (B : Nat) (v' : Sv) => RdS W B v' s := ⟨_, rfl⟩
  have HKP : Hid (∀ (W W' : World) (B : Nat) (v : Sv), RS W B v → W.heap.size ≤ W'.heap.size → (∀ k, B ≤ k → k < W.heap.size → W'.heap[k]? = W.heap[k]?) → RS W' B v) := fun W W' B v h h1 h2 => by
    rw [hRS] at h ⊢; exact RdS.keep h h1 h2
  change Hid (∀ (W : World) A2 c2, _ → Calls _ _ _ _ fun e w' => ∃ v, e = _ ∧ (fun (W : World) (B : Nat) (v' : Sv) => RdS W B v' s) w' W.heap.size v ∧ _) at HG
  change Hid (∀ W : World, _ → Calls _ _ _ _ fun e w' => ∃ v, e = _ ∧ (fun (W : World) (B : Nat) (v' : Sv) => RdS W B v' s) w' W.heap.size v ∧ _) at HRG
  change Hid (∀ (v1 v2 : Sv) B1 B2 W, (fun (W : World) (B : Nat) (v' : Sv) => RdS W B v' s) W B1 v1 → (fun (W : World) (B : Nat) (v' : Sv) => RdS W B v' s) W B2 v2 → _) at HSS
  rw [← hRS] at HG HRG HSS; unfold stv at HG HRG HSS; obtain ⟨se, hse⟩ : ∃ x, x = s.self := ⟨_, rfl⟩; obtain ⟨ep, hep⟩ : ∃ x, x = s.ep := ⟨_, rfl⟩; rw [← hse, ← hep] at HG HRG HSS; have HLEN := Lib.hid hR.len; have HR0 := Lib.hid hR; clear hs hE hRS hse hep
  go_enter Try.func4, Try.ntmps4
  go_wp2_with ((with_reducible show wpList _ _ _ (⟨some 11, _, _, _, _, _⟩ :: _) _ _); refine wpList_app _ rfl elemB (.tmp 9) (.tmp 10) rfl rfl (own_empty _ w.heap.size _ _ 1 (by simp) (by omega)) rfl ((HR0.out.stays (Stays.alloc w _)).src) n (by omega) (by omega) (by simp) ?_; intro A1 c1 w1 hown1 hg1 hat1)
  have hb1 := below_app' ((Below.refl _ _).alloc (Nat.le_refl _) _) (own_empty _ w.heap.size _ _ 1 (by simp) (by omega)) hg1 (Nat.le_refl _) (by simp); have ho1 := OwnB.of hown1 l (by simp); clear hown1 hg1 hat1 hR; refine (HG.out _ A1 c1 (ho1.rd HLEN.out (by omega))).mono ?_; rintro e w2 ⟨⟨E1, i1, j1, E2, i2, j2, E3, i3, j3⟩, rfl, hs2, hb2⟩; have ho2 := own_below ho1 hb2; have HB2 := Lib.hid (hb1.trans (hb2.mono hb1.size)); have hG1 : ∀ g, A1 = some ⟨g, 0, none⟩ → g < w1.heap.size := fun g hg => by
    subst hg; exact (World.ownsRow.lt ho1 g rfl).2
  have HG1 := Lib.hid hG1; have hs12 := hb2.size; have hsb := hb1.size; simp only; obtain ⟨w3, hw3⟩ : ∃ w3, w3 = w2.alloc (.cells #[.int .i64 se, .int .i64 ep, .slice E1 i1 j1, .slice E2 i2 j2, .slice E3 i3 j3] 26) := ⟨_, rfl⟩; have hbm : Below w2.heap.size w2 w3 := by rw [hw3]; exact (Below.refl _ _).alloc (Nat.le_refl _) _
  have HM3 : Hid (w3.heap[w2.heap.size]? = some (.cells #[.int .i64 se, .int .i64 ep, .slice E1 i1 j1, .slice E2 i2 j2, .slice E3 i3 j3] 26 (0, 0))) := by show _ = _; rw [hw3]; exact heap_alloc_new _ _
  have HO3 := Lib.hid (own_below ho2 hbm); have HS3 := Lib.hid (HKP.out _ _ _ _ hs2 hbm.size (fun k _ hk => hbm.block k hk)); have HB3 := Lib.hid (HB2.out.trans (hbm.mono HB2.out.size)); have HR3 := Lib.hid (HR0.out.below HB3.out); clear hb1 hb2 ho1 hG1 ho2 hs2 hbm
  go_wp2_with fail
  rw [← hw3]; clear hw3
  go_loopw [6] (fun i wr => ∃ k : Nat, i = .int .i64 k ∧ k ≤ n ∧ Hid ((∃ x : List UInt8, x.length = n ∧ OwnB wr w.heap.size 5 (.slice A1 n c1) x) ∧ wr.heap[w2.heap.size]? = some (.cells #[.int .i64 se, .int .i64 ep, .slice E1 i1 j1, .slice E2 i2 j2, .slice E3 i3 j3] 26 (0, 0)) ∧ RS wr w1.heap.size ⟨E1, i1, j1, E2, i2, j2, E3, i3, j3⟩ ∧ Rd wr A n c l ∧ Below w.heap.size w wr)) (fun i _ => n - (intOf i).toNat)
  case atStart => exact ⟨0, rfl, Nat.zero_le _, ⟨l, HLEN.out, HO3.out⟩, HM3.out, HS3.out, HR3.out, HB3.out⟩
  case round =>
    obtain ⟨k, rfl, hk, ⟨x, hx, hox⟩, hmr, hsr, hR, hb⟩ := hrel; have hwr := hb.size; have HB := Lib.hid hb
    by_cases hlt : k < n
    · obtain ⟨g, rfl, hg, hgl⟩ := hox.at_ hx (by omega); have hgw := HG1.out g rfl; have hcell := hox.cell hx k hlt; have hfree := hox.free hx k; have hst := hox.store hx k (255 - x.getD k 0); obtain ⟨y, hy⟩ : ∃ y, y = x.getD k 0 := ⟨_, rfl⟩; rw [← hy] at hcell hst; have hoth : ∀ q, q ≠ g → (wr.setCell ⟨g, k, none⟩ (bv (255 - y))).heap[q]? = wr.heap[q]? := fun q hq => heap_setCell_other _ _ _ _ (fun e => hq e)
      have H1 := Lib.hid hst; have H2 := Lib.hid ((hoth w2.heap.size (by omega)).trans hmr); have H4 := Lib.hid (HKP.out _ _ _ _ hsr (by simp) (fun q hq _ => hoth q (by omega))); have H5 : Hid (Rd (wr.setCell ⟨g, k, none⟩ (bv (255 - y))) A n c l) := hR.keep (by simp) (fun b o e _ => hoth b (by
        obtain ⟨b1, o1, e1, h1, _⟩ := HR0.out.at_ (by omega); rw [e1] at e; injection e with e
        injection e with e
        omega))
      have HX := Lib.hid hx; have HB9 := Lib.hid (hb.setCell (p := ⟨g, k, none⟩) hg (bv (255 - y))); clear hst hx hy hmr hsr hR hox hoth hb
      go_wp2_with fail
      rw [inv_byte]; exact ⟨⟨k + 1, by simp, by omega, ⟨_, by rw [List.length_set]; exact HX.out, H1.out⟩, H2.out, H4.out, H5.out, HB9.out⟩, by simp only [intOf]; omega⟩
    · have hkn : n = k := by omega
      have HM4 := Lib.hid hmr; have HS4 := Lib.hid hsr; have HR4 := Lib.hid hR; have hm4 := (Array.getElem?_eq_some_iff.1 hmr).1; clear hmr hsr hR hb hox hx; subst hkn
      go_wp2_with fail
      refine (HRG.out _ HR4.out).mono ?_; rintro e w5 ⟨⟨F1, p1, q1, F2, p2, q2, F3, p3, q3⟩, rfl, hs5, hb5⟩; have hm5 := (hb5.block w2.heap.size hm4).trans HM4.out; have HB5 := Lib.hid (HB.out.trans (hb5.mono hwr)); have hs55 := HKP.out _ _ _ _ HS4.out hb5.size (fun k _ hk => hb5.block k hk); obtain ⟨w6, hw6⟩ : ∃ w6, w6 = w5.alloc (.cells #[.int .i64 se, .int .i64 ep, .slice F1 p1 q1, .slice F2 p2 q2, .slice F3 p3 q3] 26) := ⟨_, rfl⟩; have hb6 : Below w5.heap.size w5 w6 := by rw [hw6]; exact (Below.refl _ _).alloc (Nat.le_refl _) _
      have HS1 := Lib.hid (HKP.out _ _ _ _ hs55 hb6.size (fun k _ hk => hb6.block k hk)); have HS2 := Lib.hid (HKP.out _ _ _ _ hs5 hb6.size (fun k _ hk => hb6.block k hk)); have HB6 := Lib.hid (HB5.out.trans (hb6.mono HB5.out.size)); have hws6 := HB6.out.size; have a0 := cell_of_cells hm5 0; have a1 := cell_of_cells hm5 1; have a2 := cell_of_cells hm5 2; have a3 := cell_of_cells hm5 3; have a4 := cell_of_cells hm5 4; simp at a0 a1 a2 a3 a4; have hm5s := (Array.getElem?_eq_some_iff.1 hm5).1; clear hs5 hb5 hm5 hs55 hb6; simp only
      go_wp2_with fail
      rw [← hw6]; clear hw6 a0 a1 a2 a3 a4; refine (HSS.out ⟨E1, i1, j1, E2, i2, j2, E3, i3, j3⟩ ⟨F1, p1, q1, F2, p2, q2, F3, p3, q3⟩ _ _ w6 HS1.out HS2.out).mono ?_; rintro e w7 ⟨rfl, hb7⟩; have HB7 := Lib.hid (HB6.out.trans (hb7.mono hws6)); clear hb7
      go_wp2_with fail
      refine (sawake_any _).mono ?_; rintro e w8 ⟨rfl, hb8⟩; have HB8 := Lib.hid (HB7.out.trans (hb8.mono HB7.out.size)); clear hb8
      go_wp2_with fail
      go_ret
      exact ⟨rfl, HB8.out⟩
end Go.Proofs.Ytcnlgcmooegfkaa
