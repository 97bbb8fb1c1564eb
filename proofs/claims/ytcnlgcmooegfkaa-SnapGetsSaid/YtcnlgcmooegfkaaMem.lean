/-
  LAWS FOR WHAT A CALL MAKES: append onto a row of the call's own, of whatever source (nil, empty or not), in the three forms that a walk takes; a slice literal; a store into an own row.
-/
import Derived.Test.YtcnlgcmooegfkaaBase
import Derived.RegionTactic
import Derived.Deep.RegionLaw
namespace Go.Proofs.Ytcnlgcmooegfkaa
open Go.RowKit

/-- t is the type of slices of e; e's zero value, cells, bytes -/
structure ElemOf (P : Program) (t e : TypeId) (z : Value) (size bytes : Nat) : Prop where
  ht : P.underlying t = some (.slice e)
  info : (P.info? e).map (fun i => (i.zero, i.size, i.bytes)) = some (some z, size, bytes)
  zs : z.cells.size = size
  pos : 0 < size
  wide : 0 < bytes

/-- the m elements of a slice at A are the cells news -/
structure Src (w : World) (A : Option Addr) (m size : Nat) (news : List Value) : Prop where
  len : news.length = m * size
  at_ : 0 < m → ∃ ad, A = some ad ∧ ∀ j u, news[j]? = some u → w.cell? (ad.add j) = some u
  one : ∀ u ∈ news, u.oneCell' = true

theorem add_none (b off j : Nat) : (⟨b, off, none⟩ : Addr).add j = ⟨b, off + j, none⟩ := by unfold Addr.add; split <;> simp_all

theorem Rd.src {w : World} {A : Option Addr} {n c : Nat} {l : List UInt8} (h : Rd w A n c l) : Src w A n 1 (bs l) :=
  ⟨by rw [bs_len, h.len]; omega, fun hn => by
    obtain ⟨b, off, e, _, hc⟩ := h.at_ hn; refine ⟨_, e, fun j u hu => ?_⟩; rw [add_none]; simp only [bs, List.getElem?_map, Option.map_eq_some_iff] at hu; obtain ⟨x, hx, rfl⟩ := hu; exact hc j x hx, bs_one l⟩
theorem Src.stays {w w' : World} {A : Option Addr} {m size : Nat} {news : List Value} (h : Src w A m size news) (hs : ∀ ad j, A = some ad → j < m * size → w'.cell? (ad.add j) = w.cell? (ad.add j)) : Src w' A m size news :=
  ⟨h.len, fun hm => by
    obtain ⟨ad, e, hc⟩ := h.at_ hm; refine ⟨ad, e, fun j u hu => (hs ad j e ?_).trans (hc j u hu)⟩; have := (List.getElem?_eq_some_iff.1 hu).1; rw [← h.len]; exact this, h.one⟩
/-- the elements of a literal: a block that was just laid -/
theorem Src.new (w : World) (cs : List Value) (t : TypeId) (m size : Nat) (hm : cs.length = m * size) (h1 : ∀ u ∈ cs, u.oneCell' = true) : Src (w.alloc (.cells cs.toArray t)) (some ⟨w.heap.size, 0, none⟩) m size cs :=
  ⟨hm, fun _ => ⟨_, rfl, World.news_of_block (cs := cs.toArray) (heap_alloc_new w _)⟩, h1⟩

section
variable {P : Program} (w : World)

theorem run_app {t e : TypeId} {z : Value} {size bytes : Nat} (hE : ElemOf P t e z size bytes) (ty : TypeId) {base : Nat} {v : Value} {n : Nat} {xs : List Value} (hown : w.ownsRow base e size v n xs)
    {A : Option Addr} {m : Nat} (c : Nat) {news : List Value} (hs : Src w A m size news) {N : Nat} (hN : n + m = N) (hb : N * bytes ≤ 140737488355328) (hbase : base ≤ w.heap.size) :
    ∃ A' c' w', (Builtin.append_ #[t, t] ty #[v, .slice A m c]).run P w = .ok (.slice A' N c') w' ∧ w'.ownsRow base e size (.slice A' N c') N (xs ++ news) ∧ w.grownBy w' v.ownBlock ∧
      (Value.ownBlock (.slice A' N c') = v.ownBlock ∨ Value.ownBlock (.slice A' N c') = some w.heap.size) := by
  obtain ⟨i, hi, hz, hsz, hby⟩ := info_parts hE.info; have h63 : n + m ≤ maxLen := by
    have := Nat.le_mul_of_pos_right N hE.wide; unfold maxLen; omega
  subst hN; have shape : ∀ v' w', World.ownsRow w' base e size v' (n + m) (xs ++ news) → ∃ A' c', v' = .slice A' (n + m) c' := by
    intro v' w' h
    rcases h.2 with ⟨rfl, h0⟩ | ⟨g, cap, cur, rfl, _⟩
    · rw [h0]; exact ⟨none, 0, rfl⟩
    · exact ⟨_, _, rfl⟩
  cases A with
  | none =>
    have hm : m = 0 := by
      rcases Nat.eq_zero_or_pos m with h0 | h0
      · exact h0
      · obtain ⟨ad, h, _⟩ := hs.at_ h0
        cases h
    subst hm; have hn : news = [] := List.eq_nil_of_length_eq_zero (by simpa using hs.len); subst hn; have hr : (Builtin.append_ #[t, t] ty #[v, .slice none 0 c]).run P w = .ok v w := by
      rcases hown.2 with ⟨rfl, rfl⟩ | ⟨g, cap, cur, rfl, _, _, hnc, _⟩
      · simp [Builtin.append_, run_underlying hE.ht, sizeOf, typeInfo, hi, Builtin.lenOf, Builtin.firstCells]
      · simp [Builtin.append_, run_underlying hE.ht, sizeOf, typeInfo, hi, Builtin.lenOf, Builtin.firstCells, hnc, storeCells]
    obtain ⟨A', c', rfl⟩ := shape v w (by simpa using hown); exact ⟨A', c', w, hr, by simpa using hown, World.grownBy.refl w _, .inl rfl⟩
  | some ad =>
    have hcells : ∀ j u, news[j]? = some u → w.cell? (ad.add j) = some u := by
      intro j u hu
      rcases Nat.eq_zero_or_pos m with h0 | h0
      · subst h0; have hn : news = [] := List.eq_nil_of_length_eq_zero (by simpa using hs.len); subst hn; simp at hu
      · obtain ⟨ad', h, hc⟩ := hs.at_ h0; injection h with h
        subst h; exact hc j u hu
    obtain ⟨v', w', hrun, h2, h3, _, h5⟩ := run_append_own_at (P := P) w base t ty e i z size bytes hE.ht hi hz hsz hby hE.zs hE.pos v n xs hown ad m c news hs.len hcells hs.one h63 hb hbase; obtain ⟨A', c', rfl⟩ := shape v' w' h2; exact ⟨A', c', w', hrun, h2, h3, h5⟩

/-- what an append leaves, as the walk goes on -/
def AppK (base : Nat) (e : TypeId) (size : Nat) (v : Value) (N : Nat) (ys : List Value) (K : Value → World → Prop) : Prop :=
  ∀ A' c' w', w'.ownsRow base e size (.slice A' N c') N ys → w.grownBy w' v.ownBlock → (Value.ownBlock (.slice A' N c') = v.ownBlock ∨ Value.ownBlock (.slice A' N c') = some w.heap.size) → K (.slice A' N c') w'

theorem wp_app {o : Oper} {a : Act} {K : Act → World → Prop} {Q : Exit → Act → World → Prop} {t e : TypeId} {z : Value} {size bytes : Nat} (hE : ElemOf P t e z size bytes) (s x : Operand)
    (ho : o.op = .call { callee := .builtin .append, args := #[s, x], argTypes := #[t, t] })
    {base : Nat} {v : Value} {n : Nat} {xs : List Value} (hv : a.eval s = v) (hown : w.ownsRow base e size v n xs)
    {A : Option Addr} {m c : Nat} {news : List Value} (hx : a.eval x = .slice A m c) (hs : Src w A m size news) (N : Nat) (hN : n + m = N) (hb : N * bytes ≤ 140737488355328) (hbase : base ≤ w.heap.size)
    (h : AppK w base e size v N (xs ++ news) fun v' w' => K (a.put o.dst v') w') : o.wp P a w K Q := by
  obtain ⟨A', c', w', hr, h2, h3, h4⟩ := run_app w hE o.type hown c hs hN hb hbase; unfold Oper.wp execOp; simp only [ho, resolve, invoke, builtin, Sem.run_bind, Sem.run_pure, Result.andThen_ok, List.map_toArray, List.map_cons, List.map_nil, hv, hx, hr]; exact h A' c' w' h2 h3 h4

/-- the law for a plain region: behind 'at_builtin' -/
theorem wpList_app {ops : Array Oper} {rest : List Oper} {o : Oper} {a : Act} {Q : Exit → Act → World → Prop} (hgd : o.guard = none) {t e : TypeId} {z : Value} {size bytes : Nat} (hE : ElemOf P t e z size bytes) (s x : Operand)
    (ho : o.op = .call { callee := .builtin .append, args := #[s, x], argTypes := #[t, t] })
    {base : Nat} {v : Value} {n : Nat} {xs : List Value} (hv : a.eval s = v) (hown : w.ownsRow base e size v n xs)
    {A : Option Addr} {m c : Nat} {news : List Value} (hx : a.eval x = .slice A m c) (hs : Src w A m size news) (N : Nat) (hN : n + m = N) (hb : N * bytes ≤ 140737488355328) (hbase : base ≤ w.heap.size)
    (h : AppK w base e size v N (xs ++ news) fun v' w' => wpList P ops Q rest (a.put o.dst v') w') : wpList P ops Q (o :: rest) a w :=
  wpList_plain hgd fun _ hK => wp_app w hE s x ho hv hown hx hs N hN hb hbase fun A' c' w' h2 h3 h4 => hK _ _ (h A' c' w' h2 h3 h4)

/-- the law at a step of a region that draws: for 'go_region_law' -/
theorem step_app {ops : Array Oper} {o : Oper} {a : Act} {K : Act → World → Prop} {Q : Exit → Act → World → Prop} {E : Prop} (hgd : o.guard = none) {t e : TypeId} {z : Value} {size bytes : Nat} (hE : ElemOf P t e z size bytes) (s x : Operand)
    (ho : o.op = .call { callee := .builtin .append, args := #[s, x], argTypes := #[t, t] })
    {base : Nat} {v : Value} {n : Nat} {xs : List Value} (hv : a.eval s = v) (hown : w.ownsRow base e size v n xs)
    {A : Option Addr} {m c : Nat} {news : List Value} (hx : a.eval x = .slice A m c) (hs : Src w A m size news) (N : Nat) (hN : n + m = N) (hb : N * bytes ≤ 140737488355328) (hbase : base ≤ w.heap.size)
    (h : AppK w base e size v N (xs ++ news) fun v' w' => K (a.put o.dst v') w') :
    if Region.wanted o (yielded ops a.tmps) = true then Oper.wp P o a w K Q else E := by
  have hw : Region.wanted o (yielded ops a.tmps) = true := by simp [Region.wanted, hgd]
  rw [if_pos hw]; exact wp_app w hE s x ho hv hown hx hs N hN hb hbase h
end

/-- behind an append: what lay below the call's own blocks is as it was -/
theorem below_app {w w' : World} {base : Nat} {e : TypeId} {size : Nat} {v : Value} {n : Nat} {xs : List Value} (hown : w.ownsRow base e size v n xs) (hg : w.grownBy w' v.ownBlock) (hbase : base ≤ w.heap.size) : Below base w w' :=
  (Below.refl base w).grown hg hbase fun k hk => (hown.lt k hk).1
theorem below_app' {B : Nat} {w0 w w' : World} {base : Nat} {e : TypeId} {size : Nat} {v : Value} {n : Nat} {xs : List Value} (hb : Below B w0 w) (hown : w.ownsRow base e size v n xs) (hg : w.grownBy w' v.ownBlock) (hB : B ≤ base) (hs : B ≤ w.heap.size) : Below B w0 w' :=
  hb.grown hg hs fun k hk => Nat.le_trans hB (hown.lt k hk).1
/-- bytes that are owned, said by their list -/
theorem OwnB.of {w : World} {B : Nat} {e : TypeId} {v : Value} {n : Nat} {xs : List Value} (h : w.ownsRow B e 1 v n xs) (l : List UInt8) (hx : xs = bs l) : OwnB w B e v l := by
  subst hx; have : n = l.length := by have := h.1; rw [bs_len] at this; omega
  subst this; exact h
/-- nothing is owned yet: 'append([]T{}, ..)': the literal's own block (g: as the walk spells its number) -/
theorem own_empty (w : World) (base g : Nat) (e : TypeId) (size : Nat) (hg : g = w.heap.size) (hb : base ≤ g) : (w.alloc (.cells #[] e)).ownsRow base e size (.slice (some ⟨g, 0, none⟩) 0 0) 0 [] := by
  subst hg; exact World.ownsRow_made w #[] 0 hb (by unfold maxLen; omega) (by simp)
/-- the elements of a literal, its block's number as the walk spells it -/
theorem Src.new' (w : World) (g : Nat) (hg : g = w.heap.size) (cs : List Value) (t : TypeId) (m size : Nat) (hm : cs.length = m * size) (h1 : ∀ u ∈ cs, u.oneCell' = true) : Src (w.alloc (.cells cs.toArray t)) (some ⟨g, 0, none⟩) m size cs := by
  subst hg; exact Src.new w cs t m size hm h1

/-- a literal of one list, of two lists: 'F(p)', 'F(p, q)' of a variadic F -/
theorem RdL.single {w : World} {A : Option Addr} {n c : Nat} {l : List UInt8} (h : Rd w A n c l) (t : TypeId) : RdL (w.alloc (.cells #[.slice A n c] t)) (some ⟨w.heap.size, 0, none⟩) 1 1 [l] :=
  ⟨rfl, by omega, by omega, fun _ => ⟨_, _, rfl, by simp, fun j x hx => by
    match j, hx with
    | 0, hx =>
      obtain rfl : l = x := by simpa using hx
      exact ⟨A, n, c, World.cell?_alloc_mark w _ _ _ 0, h.stays (Stays.alloc _ _)⟩⟩⟩
theorem RdL.pair {w : World} {A A' : Option Addr} {n c n' c' : Nat} {l l' : List UInt8} (h : Rd w A n c l) (h' : Rd w A' n' c' l') (t : TypeId) :
    RdL (w.alloc (.cells #[.slice A n c, .slice A' n' c'] t)) (some ⟨w.heap.size, 0, none⟩) 2 2 [l, l'] :=
  ⟨rfl, by omega, by omega, fun _ => ⟨_, _, rfl, by simp, fun j x hx => by
    match j, hx with
    | 0, hx =>
      obtain rfl : l = x := by simpa using hx
      exact ⟨A, n, c, World.cell?_alloc_mark w _ _ _ 0, h.stays (Stays.alloc _ _)⟩
    | 1, hx =>
      obtain rfl : l' = x := by simpa using hx
      exact ⟨A', n', c', World.cell?_alloc_mark w _ _ _ 1, h'.stays (Stays.alloc _ _)⟩⟩⟩

theorem elemB : ElemOf Try.prog 28 5 (.int .u8 0) 1 1 := ⟨Try.underlying28, by kernel_rfl, rfl, by decide, by decide⟩

end Go.Proofs.Ytcnlgcmooegfkaa
