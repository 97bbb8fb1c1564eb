/-
  OWN ROWS THAT MAY HAVE BEEN CUT ('p = p[n:len(p):len(p)]'), AND OBJECTS OF THE CALL'S OWN: what a structure behind a pointer holds, and slices in its fields that are appended to.
-/
import Derived.Test.YtcnlgcmooegfkaaKit
import Derived.ArgAppend
namespace Go.Proofs.Ytcnlgcmooegfkaa
open Go.RowKit

/-- the call owns the row, from an offset on, with the room behind it -/
def Sl (w : World) (B : Nat) (e : TypeId) (v : Value) (n : Nat) (xs : List Value) : Prop :=
  xs.length = n ∧ ((v = .slice none 0 0 ∧ n = 0) ∨ ∃ g off cap cur, v = .slice (some ⟨g, off, none⟩) n cap ∧ B ≤ g ∧ w.heap[g]? = some (.cells cur e (0, 0)) ∧ n ≤ cap ∧ cap ≤ maxLen ∧ off + cap ≤ cur.size ∧ (cur.toList.drop off).take n = xs)

section
variable {w w' : World} {B : Nat} {e : TypeId} {v : Value} {n : Nat} {xs : List Value}

theorem Sl.of_row (h : w.ownsRow B e 1 v n xs) : Sl w B e v n xs := by
  refine ⟨by have := h.1; omega, ?_⟩
  rcases h.2 with h2 | ⟨g, cap, cur, hv, hb, hg, hc, hm, hs, ht⟩
  · exact .inl h2
  · exact .inr ⟨g, 0, cap, cur, hv, hb, hg, hc, hm, by omega, by simpa using ht⟩
theorem Sl.nil (w : World) (B : Nat) (e : TypeId) : Sl w B e (.slice none 0 0) 0 [] := ⟨rfl, .inl ⟨rfl, rfl⟩⟩
theorem Sl.form (h : Sl w B e v n xs) : ∃ A c, v = .slice A n c ∧ n ≤ c := by
  rcases h.2 with ⟨rfl, rfl⟩ | ⟨g, off, cap, cur, rfl, _, _, hc, _⟩
  · exact ⟨none, 0, rfl, Nat.le_refl _⟩
  · exact ⟨_, _, rfl, hc⟩
theorem Sl.lt (h : Sl w B e v n xs) : ∀ k, v.ownBlock = some k → B ≤ k ∧ k < w.heap.size := by
  intro k hk
  rcases h.2 with ⟨rfl, _⟩ | ⟨g, off, cap, cur, rfl, hb, hg, _⟩
  · simp [Value.ownBlock] at hk
  · simp [Value.ownBlock] at hk; subst hk; exact ⟨hb, (Array.getElem?_eq_some_iff.1 hg).1⟩
/-- of what type the block is -/
theorem Sl.type (h : Sl w B e v n xs) : ∀ k, v.ownBlock = some k → ∃ cur, w.heap[k]? = some (.cells cur e (0, 0)) := by
  intro k hk
  rcases h.2 with ⟨rfl, _⟩ | ⟨g, off, cap, cur, rfl, hb, hg, _⟩
  · simp [Value.ownBlock] at hk
  · simp [Value.ownBlock] at hk; subst hk; exact ⟨_, hg⟩
theorem Sl.kept (h : Sl w B e v n xs) (hk : ∀ k, v.ownBlock = some k → w'.heap[k]? = w.heap[k]?) : Sl w' B e v n xs := by
  refine ⟨h.1, ?_⟩
  rcases h.2 with h2 | ⟨g, off, cap, cur, rfl, hb, hg, r⟩
  · exact .inl h2
  · exact .inr ⟨g, off, cap, cur, rfl, hb, (hk g rfl).trans hg, r⟩
theorem Sl.base {B' : Nat} (h : Sl w B e v n xs) (hB : ∀ k, v.ownBlock = some k → B' ≤ k) : Sl w B' e v n xs := by
  refine ⟨h.1, ?_⟩
  rcases h.2 with h2 | ⟨g, off, cap, cur, rfl, hb, r⟩
  · exact .inl h2
  · exact .inr ⟨g, off, cap, cur, rfl, hB g rfl, r⟩
theorem cell_of_cells {w : World} {g : Nat} {cur : Array Value} {e : TypeId} {fr : Nat × Nat} (h : w.heap[g]? = some (.cells cur e fr)) (j : Nat) : w.cell? ⟨g, j, none⟩ = cur[j]? := cell_of_row w g j cur e fr h
theorem Sl.cell {A : Option Addr} {c : Nat} (h : Sl w B e (.slice A n c) n xs) (hn : 0 < n) : ∃ g off, A = some ⟨g, off, none⟩ ∧ B ≤ g ∧ g < w.heap.size ∧ ∀ j u, xs[j]? = some u → w.cell? ⟨g, off + j, none⟩ = some u := by
  rcases h.2 with ⟨_, h0⟩ | ⟨g, off, cap, cur, hv, hb, hg, hc, hm, hs, ht⟩
  · omega
  · injection hv with h1 h2 h3
    subst h1 h3; refine ⟨g, off, rfl, hb, (Array.getElem?_eq_some_iff.1 hg).1, fun j u hu => ?_⟩; rw [cell_of_cells hg]; rw [← ht, List.getElem?_take] at hu
    split at hu
    · rw [List.getElem?_drop] at hu
      simpa using hu
    · cases hu
theorem Sl.src {A : Option Addr} {c : Nat} (h : Sl w B e (.slice A n c) n xs) (h1 : ∀ u ∈ xs, u.oneCell' = true) : Src w A n 1 xs :=
  ⟨by have := h.1; omega, fun hn => by
    obtain ⟨g, off, rfl, _, _, hc⟩ := h.cell hn; exact ⟨_, rfl, fun j u hu => by rw [add_none]; exact hc j u hu⟩, h1⟩
theorem Sl.rd {A : Option Addr} {c : Nat} {l : List UInt8} (h : Sl w B e (.slice A n c) n (bs l)) (hb : n ≤ 281474976710656) : Rd w A n c l := by
  have hl : l.length = n := by rw [← bs_len]; exact h.1
  obtain ⟨A', c', hv, hc⟩ := h.form; injection hv with h1 h2 h3
  subst h1 h3; refine ⟨hl, hc, hb, fun hn => ?_⟩; obtain ⟨g, off, rfl, _, hg, hcell⟩ := h.cell hn; exact ⟨g, off, rfl, hg, fun j x hx => hcell j (bv x) (by simp [bs, hx])⟩
end

/-- what a slice's block is afterwards: the one it was, or a new one -/
def Anew (w : World) (v v' : Value) : Prop := ∀ k, v'.ownBlock = some k → v.ownBlock = some k ∨ w.heap.size ≤ k
theorem Anew.trans {w w1 : World} {v v1 v2 : Value} (h : Anew w v v1) (k : Anew w1 v1 v2) (hs : w.heap.size ≤ w1.heap.size) : Anew w v v2 :=
  fun i e => (k i e).elim (fun e' => h i e') fun e' => .inr (Nat.le_trans hs e')
theorem Anew.refl (w : World) (v : Value) : Anew w v v := fun _ e => .inl e

section
variable {P : Program} (w : World)

theorem run_slapp {t e : TypeId} {z : Value} {bytes : Nat} (hE : ElemOf P t e z 1 bytes) (ty : TypeId) {B : Nat} {v : Value} {n : Nat} {xs : List Value} (hown : Sl w B e v n xs)
    {A : Option Addr} {m : Nat} (c : Nat) {news : List Value} (hs : Src w A m 1 news) {N : Nat} (hN : n + m = N) (hb : N * bytes ≤ 140737488355328) (hB : B ≤ w.heap.size) :
    ∃ A' c' w', (Builtin.append_ #[t, t] ty #[v, .slice A m c]).run P w = .ok (.slice A' N c') w' ∧ Sl w' B e (.slice A' N c') N (xs ++ news) ∧ w.grownBy w' v.ownBlock ∧ Anew w v (.slice A' N c') := by
  obtain ⟨i, hi, hz, hsz, hby⟩ := info_parts hE.info; have h63 : n + m ≤ maxLen := by
    have := Nat.le_mul_of_pos_right N hE.wide; unfold maxLen; omega
  subst hN; have hnl : news.length = m := by have := hs.len; omega
  cases A with
  | none =>
    have hm : m = 0 := by
      rcases Nat.eq_zero_or_pos m with h0 | h0
      · exact h0
      · obtain ⟨ad, h, _⟩ := hs.at_ h0
        cases h
    subst hm; have hn : news = [] := List.eq_nil_of_length_eq_zero hnl; subst hn; have hr : (Builtin.append_ #[t, t] ty #[v, .slice none 0 c]).run P w = .ok v w := by
      rcases hown.2 with ⟨rfl, rfl⟩ | ⟨g, off, cap, cur, rfl, _, _, hnc, _⟩
      · simp [Builtin.append_, run_underlying hE.ht, sizeOf, typeInfo, hi, Builtin.lenOf, Builtin.firstCells]
      · simp [Builtin.append_, run_underlying hE.ht, sizeOf, typeInfo, hi, Builtin.lenOf, Builtin.firstCells, hnc, storeCells]
    obtain ⟨A', c', rfl, _⟩ := hown.form; exact ⟨A', c', w, hr, by simpa using hown, World.grownBy.refl w _, fun k hk => .inl hk⟩
  | some ad =>
    have hcells : ∀ j u, news[j]? = some u → w.cell? (ad.add j) = some u := by
      intro j u hu
      rcases Nat.eq_zero_or_pos m with h0 | h0
      · have hn : news = [] := List.eq_nil_of_length_eq_zero (by omega); subst hn; simp at hu
      · obtain ⟨ad', h, hc⟩ := hs.at_ h0; injection h with h
        subst h; exact hc j u hu
    rcases hown.2 with ⟨rfl, rfl⟩ | ⟨g, off, cap, cur, rfl, hBg, hg, hnc, hcm, hcs, ht⟩
    · have hx : xs = [] := List.eq_nil_of_length_eq_zero hown.1; subst hx; obtain ⟨A', c', w', h1, h2, h3, h4⟩ := run_app w hE ty (World.ownsRow_nil w B e 1) c hs rfl hb hB; refine ⟨A', c', w', h1, .of_row h2, h3, fun k hk => ?_⟩
      rcases h4 with h4 | h4
      · exact .inl (h4 ▸ hk)
      · rw [h4] at hk; injection hk with hk
        exact .inr (by omega)
    · by_cases hr : n + m ≤ cap
      · have hf := run_firstCells_some (P := P) w 1 m ad m c news hs.len hcells; have hst := run_storeCells_at P g (off + n) e news 0 cur w hg (by omega) hs.one; simp only [Nat.add_zero] at hst; refine ⟨some ⟨g, off, none⟩, cap, w.setRow g (cur.toList.take (off + n) ++ news ++ cur.toList.drop (off + n + news.length)).toArray, ?_, ?_, ?_, ?_⟩
        · simp [Builtin.append_, run_underlying hE.ht, sizeOf, typeInfo, hi, Builtin.lenOf, hr, hsz, hf, Addr.add_lit, hst]
        · refine ⟨by rw [List.length_append, hown.1, hnl], .inr ⟨g, off, cap, _, rfl, hBg, by rw [setRow_heap w g cur _ e (0, 0) hg], hr, hcm, ?_, ?_⟩⟩
          · simp; omega
          · simp only [List.append_assoc]; have e1 : (cur.toList.take (off + n)).drop off = xs := by rw [List.drop_take]; simpa using ht
            have e2 : (cur.toList.take (off + n) ++ (news ++ cur.toList.drop (off + n + news.length))).drop off = xs ++ (news ++ cur.toList.drop (off + n + news.length)) := by
              rw [List.drop_append_of_le_length (by simp; omega), e1]
            rw [e2, ← List.append_assoc, List.take_left' (by rw [List.length_append, hown.1, hnl])]
        · refine ⟨rfl, rfl, rfl, by simp [World.setRow], fun k hk hne => ?_⟩; exact setRow_other w g k _ (by intro h; apply hne; simp [Value.ownBlock, h])
        · intro k hk; exact .inl hk
      · have holds : ∀ j u, xs[j]? = some u → w.cell? ((⟨g, off, none⟩ : Addr).add j) = some u := by
          intro j u hu; rw [add_none, cell_of_cells hg]; rw [← ht, List.getElem?_take] at hu
          split at hu
          · rw [List.getElem?_drop] at hu
            simpa using hu
          · cases hu
        obtain ⟨v', w', hrun, r1, r2⟩ := run_append_arg_grows (P := P) w t ty e i z 1 bytes hE.ht hi hz hsz hby hE.zs (by omega) ⟨g, off, none⟩ n cap xs (by have := hown.1; omega) holds ad m c news hs.len hcells (by omega) h63 hb; have hsl := (Sl.of_row r1); obtain ⟨A', c', rfl, _⟩ := hsl.form; refine ⟨A', c', w', hrun, hsl.base fun k hk => Nat.le_trans hB (hsl.lt k hk).1, ⟨r2.os, r2.tape, r2.output, r2.size, fun k hk _ => r2.block k hk (by simp)⟩, fun k hk => .inr (hsl.lt k hk).1⟩

/-- what an append leaves, as the walk goes on -/
def SlK (B : Nat) (e : TypeId) (v : Value) (N : Nat) (ys : List Value) (K : Value → World → Prop) : Prop :=
  ∀ A' c' w', Sl w' B e (.slice A' N c') N ys → w.grownBy w' v.ownBlock → Anew w v (.slice A' N c') → K (.slice A' N c') w'

theorem wp_slapp {o : Oper} {a : Act} {K : Act → World → Prop} {Q : Exit → Act → World → Prop} {t e : TypeId} {z : Value} {bytes : Nat} (hE : ElemOf P t e z 1 bytes) (s x : Operand)
    (ho : o.op = .call { callee := .builtin .append, args := #[s, x], argTypes := #[t, t] })
    {B : Nat} {v : Value} {n : Nat} {xs : List Value} (hv : a.eval s = v) (hown : Sl w B e v n xs)
    {A : Option Addr} {m c : Nat} {news : List Value} (hx : a.eval x = .slice A m c) (hs : Src w A m 1 news) (N : Nat) (hN : n + m = N) (hb : N * bytes ≤ 140737488355328) (hB : B ≤ w.heap.size)
    (h : SlK w B e v N (xs ++ news) fun v' w' => K (a.put o.dst v') w') : o.wp P a w K Q := by
  obtain ⟨A', c', w', hr, h2, h3, h4⟩ := run_slapp w hE o.type hown c hs hN hb hB; unfold Oper.wp execOp; simp only [ho, resolve, invoke, builtin, Sem.run_bind, Sem.run_pure, Result.andThen_ok, List.map_toArray, List.map_cons, List.map_nil, hv, hx, hr]; exact h A' c' w' h2 h3 h4

/-- the law for a plain region: behind 'at_builtin' -/
theorem wpList_slapp {ops : Array Oper} {rest : List Oper} {o : Oper} {a : Act} {Q : Exit → Act → World → Prop} (hgd : o.guard = none) {t e : TypeId} {z : Value} {bytes : Nat} (hE : ElemOf P t e z 1 bytes) (s x : Operand)
    (ho : o.op = .call { callee := .builtin .append, args := #[s, x], argTypes := #[t, t] })
    {B : Nat} {v : Value} {n : Nat} {xs : List Value} (hv : a.eval s = v) (hown : Sl w B e v n xs)
    {A : Option Addr} {m c : Nat} {news : List Value} (hx : a.eval x = .slice A m c) (hs : Src w A m 1 news) (N : Nat) (hN : n + m = N) (hb : N * bytes ≤ 140737488355328) (hB : B ≤ w.heap.size)
    (h : SlK w B e v N (xs ++ news) fun v' w' => wpList P ops Q rest (a.put o.dst v') w') : wpList P ops Q (o :: rest) a w :=
  wpList_plain hgd fun _ hK => wp_slapp w hE s x ho hv hown hx hs N hN hb hB fun A' c' w' h2 h3 h4 => hK _ _ (h A' c' w' h2 h3 h4)

end
/-- the law at a step of a region that draws: for 'go_region_law' -/
theorem step_slapp {P : Program} {w : World} {ops : Array Oper} {o : Oper} {a : Act} {K : Act → World → Prop} {Q : Exit → Act → World → Prop} {E : Prop} (hgd : o.guard = none) {t e : TypeId} {z : Value} {bytes : Nat} (hE : ElemOf P t e z 1 bytes) (s x : Operand)
    (ho : o.op = .call { callee := .builtin .append, args := #[s, x], argTypes := #[t, t] })
    {B : Nat} (v : Value) {n : Nat} {xs : List Value} (hv : a.eval s = v) (hown : Sl w B e v n xs)
    {A : Option Addr} {m c : Nat} {news : List Value} (hx : a.eval x = .slice A m c) (hs : Src w A m 1 news) (N : Nat) (hN : n + m = N) (hb : N * bytes ≤ 140737488355328) (hB : B ≤ w.heap.size)
    (h : SlK w B e v N (xs ++ news) fun v' w' => K (a.put o.dst v') w') :
    if Region.wanted o (yielded ops a.tmps) = true then Oper.wp P o a w K Q else E := by
  have hw : Region.wanted o (yielded ops a.tmps) = true := by simp [Region.wanted, hgd]
  rw [if_pos hw]; exact wp_slapp w hE s x ho hv hown hx hs N hN hb hB h
end Go.Proofs.Ytcnlgcmooegfkaa
