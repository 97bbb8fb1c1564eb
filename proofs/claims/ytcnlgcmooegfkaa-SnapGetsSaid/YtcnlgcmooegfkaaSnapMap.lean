/-
  MAPS KEYED BY IDS AND BY PAIRS OF NUMBERS: what a look-up, a store, len, a range do to a map that is known whole.
-/
import Derived.Test.YtcnlgcmooegfkaaSnapMath
import Derived.Test.YtcnlgcmooegfkaaMsgWalk
import Derived.Test.YtcnlgcmooegfkaaCells
import Derived.Laws.StructEq
import Derived.ChangeKeysEq
import Derived.RangeFuncRecord
import Derived.Maps.RangeRun
namespace Go.Proofs.Ytcnlgcmooegfkaa
open Go.RowKit Mg Sn

set_option maxHeartbeats 1000000 in
theorem eq_id (a b : Mid) (w : World) : (Op.equal 52 (idv a) (idv b)).run Try.prog w = .ok (decide (a = b)) w := by
  obtain ⟨o, d, e, c⟩ := a; obtain ⟨o', d', e', c'⟩ := b; unfold Op.equal idv; rw [show Op.maxDepth = 9999 + 1 from rfl, run_equalIn_struct w _ _ _ _ (by kernel_rfl) (by kernel_rfl)]; go_simp
  by_cases h1 : o = o' <;> by_cases h2 : d = d' <;> by_cases h3 : e = e' <;> by_cases h4 : c = c' <;> simp [h1, h2, h3, h4]

/-- the cells of numbers -/
def is64 (l : List Int) : List Value := l.map (.int .i64)
theorem eq_items {P : Program} {e : TypeId} (he : P.underlying e = some (.int .i64)) (ha : ∀ w, (isAgg e).run P w = .ok false w) (d : Nat) (us vs : List Int) (hl : us.length = vs.length) : ∀ (k i : Nat) (w : World), i + k = us.length →
    (Op.eqItems (d + 1) e 1 (is64 us).toArray (is64 vs).toArray (List.range' i k)).run P w = .ok (decide (us.drop i = vs.drop i)) w
  | 0, i, w, h => by
    simp [Op.eqItems, List.drop_of_length_le (show us.length ≤ i by omega), List.drop_of_length_le (show vs.length ≤ i by omega)]
  | k + 1, i, w, h => by
    have hu : i < us.length := by omega
    have hv : i < vs.length := by omega
    have p1 : (part e (is64 us).toArray (i * 1)).run P w = .ok (.int .i64 us[i]) w := by simp [part, ha, is64, hu]
    have p2 : (part e (is64 vs).toArray (i * 1)).run P w = .ok (.int .i64 vs[i]) w := by simp [part, ha, is64, hv]
    simp only [List.range'_succ, Op.eqItems, Sem.run_bind, p1, p2, Result.andThen_ok, run_equalIn_int w d e .i64 .i64 us[i] vs[i] he]; have hx : (us.drop i = vs.drop i) ↔ (us[i] = vs[i] ∧ us.drop (i + 1) = vs.drop (i + 1)) := by
      conv => lhs; rw [List.drop_eq_getElem_cons hu, List.drop_eq_getElem_cons hv]
      exact Iff.of_eq (List.cons.injEq ..)
    by_cases hq : us[i] = vs[i]
    · have h2 := eq_items he ha d us vs hl k (i + 1) w (by omega); simp only [hq, beq_self_eq_true, Bool.not_true, Bool.false_eq_true, if_false, h2]; simp [hx, hq]
    · have h3 : decide (us.drop i = vs.drop i) = false := by rw [decide_eq_false_iff_not, hx]; exact fun h => hq h.1
      rw [h3]; simp [hq]
theorem eq_ints {P : Program} {t e : TypeId} {n : Nat} {i : TypeInfo} (hu : P.underlying t = some (.array n e)) (hi : P.info? e = some i) (h1 : P.cellsOf e = 1) (he : P.underlying e = some (.int .i64)) (ha : ∀ w, (isAgg e).run P w = .ok false w) (us vs : List Int) (hus : us.length = n) (hvs : vs.length = n) (d : Nat) (w : World) :
    (Op.equalIn (d + 2) t (.agg (is64 us).toArray) (.agg (is64 vs).toArray)).run P w = .ok (decide (us = vs)) w := by
  rw [run_equalIn_array w (d + 1) _ _ hu hi, h1, List.range_eq_range', eq_items he ha d us vs (by omega) n 0 w (by omega)]; simp

/-- a pair of numbers -/
def prv (a b : Int) : Value := .agg #[.int .i64 a, .int .i64 b]
theorem ex_info : ∃ i, Try.prog.info? 3 = some i := by
  have : (Try.prog.info? 3).isSome = true := by kernel_rfl
  exact Option.isSome_iff_exists.1 this
theorem eq_pr (a b a' b' : Int) (w : World) : (Op.equal 131 (prv a b) (prv a' b')).run Try.prog w = .ok (decide (a = a' ∧ b = b')) w := by
  obtain ⟨i, hi⟩ := ex_info; have := eq_ints (P := Try.prog) (t := 131) (by kernel_rfl) hi (by kernel_rfl) (by kernel_rfl) (fun _ => by kernel_rfl) [a, b] [a', b'] rfl rfl 9998 w; unfold Op.equal prv; rw [show Op.maxDepth = 9998 + 2 from rfl]
  simpa [is64] using this
/-- two arrays of numbers, held against one another -/
theorem neq_used (us vs : List Int) (hus : us.length = 64) (hvs : vs.length = 64) (w : World) : (binOp .neq 95 (.agg (is64 us).toArray) (.agg (is64 vs).toArray)).run Try.prog w = .ok (.bool (!decide (us = vs))) w := by
  obtain ⟨i, hi⟩ := ex_info; have := eq_ints (P := Try.prog) (t := 95) (by kernel_rfl) hi (by kernel_rfl) (by kernel_rfl) (fun _ => by kernel_rfl) us vs hus hvs 9998 w; rw [run_neq_struct, this]; rfl

theorem check_int {P : Program} (em : Bool) (m : Nat) {t : TypeId} {k q : IntKind} (z : Int) (w : World) (h : P.underlying t = some (.int k)) : (Instr.checkKey em (m + 1) t (.int q z)).run P w = .ok () w := by
  simp [Instr.checkKey, run_underlying h]
theorem part_at {P : Program} {e : TypeId} (ha : ∀ w, (isAgg e).run P w = .ok false w) (cs : Array Value) (off : Nat) (v : Value) (hv : cs[off]? = some v) (w : World) : (part e cs off).run P w = .ok v w := by simp [part, ha, hv]
theorem agg_int (w : World) : (isAgg 3).run Try.prog w = .ok false w := by kernel_rfl
theorem check_id' (em : Bool) (m : Nat) (i : Mid) (w : World) : (Instr.checkKey em (m + 2) 52 (idv i)).run Try.prog w = .ok () w := by
  unfold idv; rw [Instr.checkKey]; simp only [Sem.run_bind, run_underlying Try.underlying52, Result.andThen_ok]; have p0 := fun w => part_at agg_int #[.int .i64 i.o, .int .i64 i.d, .int .i64 i.e, .int .i64 i.c] 0 _ rfl w
  have p1 := fun w => part_at agg_int #[.int .i64 i.o, .int .i64 i.d, .int .i64 i.e, .int .i64 i.c] 1 _ rfl w
  have p2 := fun w => part_at agg_int #[.int .i64 i.o, .int .i64 i.d, .int .i64 i.e, .int .i64 i.c] 2 _ rfl w
  have p3 := fun w => part_at agg_int #[.int .i64 i.o, .int .i64 i.d, .int .i64 i.e, .int .i64 i.c] 3 _ rfl w
  have hc := fun z w => check_int (P := Try.prog) em m (t := 3) (q := .i64) z w Try.underlying3
  simp [← Array.forIn_toList, p0, p1, p2, p3, hc, Sem.run_bind]
theorem check_id (em : Bool) (i : Mid) (w : World) : (Instr.checkKey em 10000 52 (idv i)).run Try.prog w = .ok () w := check_id' em 9998 i w
theorem check_pr' (em : Bool) (m : Nat) (a b : Int) (w : World) : (Instr.checkKey em (m + 2) 131 (prv a b)).run Try.prog w = .ok () w := by
  unfold prv; have hu : Try.prog.underlying 131 = some (.array 2 3) := by kernel_rfl
  have hr : (List.range' 0 2) = [0, 1] := rfl; have hz : ∀ w, (sizeOf 3).run Try.prog w = .ok 1 w := fun _ => by kernel_rfl
  rw [Instr.checkKey]; simp only [Sem.run_bind, run_underlying hu, Result.andThen_ok]; simp only [Std.Legacy.Range.forIn_eq_forIn_range', Std.Legacy.Range.size, Nat.sub_zero, Nat.add_one_sub_one, Nat.div_one, hr]; have p0 := fun w => part_at agg_int #[.int .i64 a, .int .i64 b] 0 _ rfl w
  have p1 := fun w => part_at agg_int #[.int .i64 a, .int .i64 b] 1 _ rfl w
  have hc := fun z w => check_int (P := Try.prog) em m (t := 3) (q := .i64) z w Try.underlying3
  simp [p0, p1, hc, hz, Sem.run_bind]
theorem check_pr (em : Bool) (a b : Int) (w : World) : (Instr.checkKey em 10000 131 (prv a b)).run Try.prog w = .ok () w := check_pr' em 9998 a b w

/-! ### a map that is known whole -/
def ents : Nat → List (Value × Value) → List MapEntry
  | _, [] => []
  | n, x :: r => ⟨x.1, x.2, n⟩ :: ents (n + 1) r
theorem ents_len : ∀ (n : Nat) (kv : List (Value × Value)), (ents n kv).length = kv.length
  | _, [] => rfl
  | n, _ :: r => by simp [ents, ents_len (n + 1) r]
theorem ents_snoc (x : Value × Value) : ∀ (n : Nat) (kv : List (Value × Value)), ents n (kv ++ [x]) = ents n kv ++ [⟨x.1, x.2, n + kv.length⟩]
  | _, [] => rfl
  | n, _ :: r => by
    simp only [List.cons_append, ents, ents_snoc x (n + 1) r, List.length_cons]; rw [show n + 1 + r.length = n + (r.length + 1) by omega]
def MapAt (w : World) (b : Nat) (kv : List (Value × Value)) : Prop := w.heap[b]? = some (.map (ents 0 kv).toArray kv.length)
theorem MapAt.lt {w : World} {b : Nat} {kv : List (Value × Value)} (h : MapAt w b kv) : b < w.heap.size := (Array.getElem?_eq_some_iff.1 h).1
theorem MapAt.keep {w w' : World} {b : Nat} {kv : List (Value × Value)} (h : MapAt w b kv) (hk : w'.heap[b]? = w.heap[b]?) : MapAt w' b kv := hk.trans h

section
variable {P : Program} {T : TypeId} {k : Value} {w : World}
theorem ask_none : ∀ (kv : List (Value × Value)) (n i : Nat), (∀ x ∈ kv, (Op.equal T k x.1).run P w = .ok false w) → (Instr.findAsking T k (ents n kv) i).run P w = .ok none w
  | [], _, _, _ => by simp [ents, Instr.findAsking]
  | x :: r, n, i, h => by
    have := ask_none r (n + 1) (i + 1) (fun y hy => h y (List.mem_cons_of_mem _ hy)); simp [ents, Instr.findAsking, Sem.run_bind, h x (List.mem_cons_self ..), this]
theorem ask_some : ∀ (kv : List (Value × Value)) (n i : Nat), (∀ x ∈ kv, ∃ b, (Op.equal T k x.1).run P w = .ok b w ∧ (b = true ↔ k = x.1)) → k ∈ kv.map Prod.fst → ∃ j v, (Instr.findAsking T k (ents n kv) i).run P w = .ok (some (j, v)) w ∧ (k, v) ∈ kv
  | [], _, _, _, h => by simp at h
  | x :: r, n, i, h, hm => by
    obtain ⟨b, hb, hi⟩ := h x (List.mem_cons_self ..)
    cases b with
    | true =>
      have e := hi.1 rfl; exact ⟨i, x.2, by simp [ents, Instr.findAsking, Sem.run_bind, hb], by rw [e]; simp⟩
    | false =>
      have hne : k ≠ x.1 := fun e => by have := hi.2 e; cases this
      have hm2 : k ∈ r.map Prod.fst := by
        rw [List.map_cons, List.mem_cons] at hm; exact hm.resolve_left hne
      obtain ⟨j, v, h1, h2⟩ := ask_some r (n + 1) (i + 1) (fun y hy => h y (List.mem_cons_of_mem _ hy)) hm2; exact ⟨j, v, by simp [ents, Instr.findAsking, Sem.run_bind, hb, h1], List.mem_cons_of_mem _ h2⟩
theorem find_of {d : TypeDesc} (hu : P.underlying T = some d) (hd : ∀ a b, Instr.sameNow d a b = none) (kv : List (Value × Value)) : (Instr.findKey T k (ents 0 kv)).run P w = if kv = [] then .ok none w else (Instr.findAsking T k (ents 0 kv)).run P w := by
  cases kv with
  | nil => simp [Instr.findKey, ents, Instr.findNow, run_underlying hu]
  | cons x r => simp [Instr.findKey, ents, Instr.findNow, run_underlying hu, hd]
theorem get_map {b : Nat} {kv : List (Value × Value)} (h : MapAt w b kv) : (getObj b).run P w = .ok (.map (ents 0 kv).toArray kv.length) w := by
  unfold MapAt at h; simp [getObj, Sem.run, h]
theorem look_none {M E : TypeId} {d : TypeDesc} {z : Value} {b : Nat} {kv : List (Value × Value)} (hM : P.underlying M = some (.map T E)) (hu : P.underlying T = some d) (hd : ∀ a b, Instr.sameNow d a b = none) (h : MapAt w b kv)
    (hz : (zeroValue E).run P w = .ok z w) (hc : ∀ em, (Instr.checkKey em 10000 T k).run P w = .ok () w) (hk : ∀ x ∈ kv, (Op.equal T k x.1).run P w = .ok false w) (ok : Bool) :
    (Instr.lookup M (.map (some b)) k ok).run P w = .ok (if ok then .tuple #[z, .bool false] else z) w := by
  have hf : (Instr.findKey T k (ents 0 kv)).run P w = .ok none w := by
    rw [find_of hu hd]
    split
    · rfl
    · exact ask_none kv 0 0 hk
  simp [Instr.lookup, run_underlying hM, get_map h, hc, hf, hz]
theorem look_some {M E : TypeId} {d : TypeDesc} {b : Nat} {kv : List (Value × Value)} (hM : P.underlying M = some (.map T E)) (hu : P.underlying T = some d) (hd : ∀ a b, Instr.sameNow d a b = none) (h : MapAt w b kv)
    (hc : ∀ em, (Instr.checkKey em 10000 T k).run P w = .ok () w) (hk : ∀ x ∈ kv, ∃ b, (Op.equal T k x.1).run P w = .ok b w ∧ (b = true ↔ k = x.1)) (hm : k ∈ kv.map Prod.fst) (ok : Bool) :
    ∃ v, (k, v) ∈ kv ∧ (Instr.lookup M (.map (some b)) k ok).run P w = .ok (if ok then .tuple #[v, .bool true] else v) w := by
  obtain ⟨j, v, h1, h2⟩ := ask_some kv 0 0 hk hm; have hf : (Instr.findKey T k (ents 0 kv)).run P w = .ok (some (j, v)) w := by
    rw [find_of hu hd, if_neg (by rintro rfl; simp at hm)]; exact h1
  refine ⟨v, h2, ?_⟩; simp [Instr.lookup, run_underlying hM, get_map h, hc, hf]
/-- the map with one more -/
def moreMap (w : World) (b : Nat) (kv : List (Value × Value)) (k v : Value) : World := w.putObj b (.map (ents 0 (kv ++ [(k, v)])).toArray (kv.length + 1))
theorem update_new {M E : TypeId} {d : TypeDesc} {b : Nat} {kv : List (Value × Value)} (hM : P.underlying M = some (.map T E)) (hu : P.underlying T = some d) (hd : ∀ a b, Instr.sameNow d a b = none) (h : MapAt w b kv)
    (hc : (Instr.checkKey false 10000 T k).run P w = .ok () w) (hk : ∀ x ∈ kv, (Op.equal T k x.1).run P w = .ok false w) (v : Value) :
    (Instr.mapUpdate M (.map (some b)) k v).run P w = .ok () (moreMap w b kv k v) := by
  have hf : (Instr.findKey T k (ents 0 kv)).run P w = .ok none w := by
    rw [find_of hu hd]
    split
    · rfl
    · exact ask_none kv 0 0 hk
  have hs : (setObj b (.map (ents 0 kv ++ [({ key := k, val := v, born := kv.length } : MapEntry)]).toArray (kv.length + 1))).run P w = .ok () (moreMap w b kv k v) := by
    have := MapKept.run_setObj_map (P := P) (.map (ents 0 kv ++ [({ key := k, val := v, born := kv.length } : MapEntry)]).toArray (kv.length + 1)) h; rw [this]; simp [moreMap, World.putObj, ents_snoc]
  simp [Instr.mapUpdate, run_underlying hM, get_map h, hc, hf, hs]
theorem moreMap_at {b : Nat} {kv : List (Value × Value)} (h : MapAt w b kv) (k v : Value) : MapAt (moreMap w b kv k v) b (kv ++ [(k, v)]) := by
  unfold MapAt moreMap; rw [World.putObj_heap_same h.lt]; simp
theorem moreMap_other {b j : Nat} {kv : List (Value × Value)} (k v : Value) (hj : j ≠ b) : (moreMap w b kv k v).heap[j]? = w.heap[j]? := World.putObj_heap_other hj
theorem moreMap_size {b : Nat} {kv : List (Value × Value)} (k v : Value) : (moreMap w b kv k v).heap.size = w.heap.size := by simp [moreMap]
theorem len_map {M E : TypeId} {b : Nat} {kv : List (Value × Value)} (hM : P.underlying M = some (.map T E)) (h : MapAt w b kv) (ty : TypeId) : (Builtin.len_ #[M] ty #[.map (some b)]).run P w = .ok (.int .i64 kv.length) w := by
  simp [Builtin.len_, run_underlying hM, get_map h, ents_len, goInt]
end

/-! ### the numbers behind those that a range has seen -/
def sumS : Nat → List Nat → (Nat → Bool) → Nat
  | _, [], _ => 0
  | n, x :: r, p => (if p n then x else 0) + sumS (n + 1) r p
theorem sumS_none : ∀ (n : Nat) (l : List Nat) (p : Nat → Bool), (∀ j, p j = false) → sumS n l p = 0
  | _, [], _, _ => rfl
  | n, x :: r, p, h => by simp [sumS, h, sumS_none (n + 1) r p h]
theorem sumS_all : ∀ (n : Nat) (l : List Nat) (p : Nat → Bool), (∀ j, n ≤ j → j < n + l.length → p j = true) → sumS n l p = l.sum
  | _, [], _, _ => rfl
  | n, x :: r, p, h => by
    have h1 := h n (Nat.le_refl _) (by simp); simp [sumS, h1, sumS_all (n + 1) r p (fun j a b => h j (by omega) (by simp; omega))]
theorem sumS_far : ∀ (n : Nat) (l : List Nat) (p q : Nat → Bool), (∀ j, n ≤ j → p j = q j) → sumS n l p = sumS n l q
  | _, [], _, _, _ => rfl
  | n, x :: r, p, q, h => by rw [sumS, sumS, h n (Nat.le_refl _), sumS_far (n + 1) r p q (fun j a => h j (by omega))]
theorem sumS_add : ∀ (n : Nat) (l : List Nat) (p q : Nat → Bool) (i x : Nat), l[i]? = some x → p (n + i) = false → q (n + i) = true → (∀ j, j ≠ n + i → q j = p j) → sumS n l q = sumS n l p + x
  | _, [], _, _, _, _, h, _, _, _ => by simp at h
  | n, y :: r, p, q, 0, x, h, h1, h2, h3 => by
    obtain rfl : y = x := by simpa using h
    have e := sumS_far (n + 1) r q p (fun j a => h3 j (by omega)); rw [Nat.add_zero] at h1 h2; simp [sumS, h1, h2, e]; omega
  | n, y :: r, p, q, i + 1, x, h, h1, h2, h3 => by
    have ih := sumS_add (n + 1) r p q i x (by simpa using h) (by rw [show n + 1 + i = n + (i + 1) by omega]; exact h1) (by rw [show n + 1 + i = n + (i + 1) by omega]; exact h2) (fun j a => h3 j (by omega)); have e := h3 n (by omega); simp [sumS, e, ih]; omega
theorem ents_get : ∀ (n : Nat) (kv : List (Value × Value)) (e : MapEntry), e ∈ ents n kv → ∃ i x, kv[i]? = some x ∧ e = ⟨x.1, x.2, n + i⟩
  | _, [], _, h => by simp [ents] at h
  | n, x :: r, e, h => by
    rw [ents, List.mem_cons] at h
    rcases h with rfl | h
    · exact ⟨0, x, rfl, rfl⟩
    · obtain ⟨i, y, h1, rfl⟩ := ents_get (n + 1) r e h; exact ⟨i + 1, y, by simpa using h1, by simp; omega⟩
theorem ents_born : ∀ (n : Nat) (kv : List (Value × Value)), (ents n kv).map (·.born) = List.range' n kv.length
  | _, [] => rfl
  | n, x :: r => by simp [ents, ents_born (n + 1) r, List.range'_succ]
theorem ents_mem : ∀ (n : Nat) (kv : List (Value × Value)) (i : Nat) (x : Value × Value), kv[i]? = some x → (⟨x.1, x.2, n + i⟩ : MapEntry) ∈ ents n kv
  | _, [], _, _, h => by simp at h
  | n, y :: r, 0, x, h => by
    obtain rfl : y = x := by simpa using h
    simp [ents]
  | n, y :: r, i + 1, x, h => by
    have := ents_mem (n + 1) r i x (by simpa using h); rw [show n + 1 + i = n + (i + 1) by omega] at this; simp [ents, this]
end Go.Proofs.Ytcnlgcmooegfkaa
