/-
  A REGION THAT DRAWS ITS ORDER AND ENDS IN ONE OPERATION THAT WAITS FOR ALL OTHERS (a store, a store into a map): the others by XFree's law, the last one behind them.
-/
import Derived.Test.YtcnlgcmooegfkaaFlag
namespace Go.Proofs.Ytcnlgcmooegfkaa.Free

section
variable {P : Program}
theorem upon_q {o : Oper} {a : Act} {K : Act → World → Prop} {Q Q' : Exit → Act → World → Prop} (hp : ∀ ch a w, ¬ Q (.panic ch) a w) (ho : ¬ LetsOut Q) (x : Result Next) (h : o.upon P a K Q x) : o.upon P a K Q' x := by
  cases x with
  | ok v w' =>
    cases v
    case enter f args =>
      have h : Calls P f args w' _ := h
      show Calls P f args w' _
      refine h.mono fun e w'' he => ?_
      cases e with
      | returned v => exact he
      | panicked ch => exact (hp _ _ _ he).elim
      | outgrown => exact (ho he).elim
    all_goals exact h
  | halt x w' =>
    cases x <;> simp only [Oper.upon] at h ⊢
    all_goals first | exact h.elim | exact (hp _ _ _ h).elim | exact h
theorem wp_q {o : Oper} {a : Act} {w : World} {K : Act → World → Prop} {Q Q' : Exit → Act → World → Prop} (hp : ∀ ch a w, ¬ Q (.panic ch) a w) (ho : ¬ LetsOut Q) (h : o.wp P a w K Q) : o.wp P a w K Q' := upon_q hp ho _ h

theorem yielded_last {l0 : List Oper} {o : Oper} (hd : o.dst = none) (t : Array Value) : yielded (l0 ++ [o]).toArray t = yielded l0.toArray t := by
  funext j
  unfold yielded; have : ((l0 ++ [o]).toArray[j]?).bind (·.dst) = (l0.toArray[j]?).bind (·.dst) := by
    simp only [List.getElem?_toArray]
    rcases Nat.lt_trichotomy j l0.length with h | h | h
    · rw [List.getElem?_append_left h]
    · subst h; rw [List.getElem?_append_right (Nat.le_refl _), Nat.sub_self, List.getElem?_eq_none (Nat.le_refl _)]; simp [hd]
    · rw [List.getElem?_eq_none (by simp; omega), List.getElem?_eq_none (by omega)]
  rw [this]

/-- what is listed has what it waits for listed -/
def Cl (l0 : List Oper) (listed : Array Bool) : Prop := ∀ (j : Nat) (o : Oper), l0[j]? = some o → listed.getD j false = true → ∀ e ∈ o.after, Region.binds .any e = true → listed.getD e.on false = true
theorem getD_push (l : Array Bool) (j : Nat) (d : Bool) (x : Bool) (h : j < l.size) : (l.push x).getD j d = l.getD j d := by
  rw [Array.getD_eq_getD_getElem?, Array.getElem?_push_lt h, Array.getD_eq_getD_getElem?, Array.getElem?_eq_getElem h]
theorem getD_same {l : Array Bool} {j : Nat} (h : j < l.size) (d d' : Bool) : l.getD j d = l.getD j d' := by
  rw [Array.getD_eq_getD_getElem?, Array.getD_eq_getD_getElem?, Array.getElem?_eq_getElem h]; rfl
theorem ready_mem {ops : Array Oper} {listed : Array Bool} {i : Nat} : i ∈ Region.ready .any ops listed ↔ ∃ o, ops[i]? = some o ∧ listed.getD i true = false ∧ ∀ e ∈ o.after, Region.binds .any e = true → listed.getD e.on false = true := by
  unfold Region.ready; rw [List.mem_filter, List.mem_range]
  constructor
  · rintro ⟨h1, h2⟩; rw [Array.getElem?_eq_getElem h1] at h2; simp only [Option.map_some, Option.getD_some, Bool.and_eq_true, Bool.not_eq_true'] at h2; refine ⟨_, Array.getElem?_eq_getElem h1, h2.1, fun e he hb => ?_⟩; have := Array.all_eq_true_iff_forall_mem.1 h2.2 e he
    simpa [hb] using this
  · rintro ⟨o, h1, h2, h3⟩; refine ⟨(Array.getElem?_eq_some_iff.1 h1).1, ?_⟩; rw [h1]; simp only [Option.map_some, Option.getD_some, Bool.and_eq_true, Bool.not_eq_true', h2, true_and]; rw [Array.all_eq_true_iff_forall_mem]; intro e he
    by_cases hb : Region.binds .any e = true
    · simp [h3 e he hb]
    · simp [hb]
/-- nothing is ready: all are listed -/
theorem all_listed {l0 : List Oper} (hb : ∀ (i : Nat) (o : Oper), l0[i]? = some o → ∀ e ∈ o.after, Region.binds .any e = true → e.on < i) {listed : Array Bool} (hs : listed.size = l0.length) (h : Region.ready .any l0.toArray listed = []) : ∀ j, j < l0.length → listed.getD j false = true := by
  intro j
  induction j using Nat.strongRecOn with
  | _ j ih =>
    intro hj
    by_cases hl : listed.getD j true = true
    · rw [getD_same (by omega) false true]; exact hl
    · exfalso
      have : j ∈ Region.ready .any l0.toArray listed := ready_mem.2 ⟨l0[j], by simp [hj], by simpa using hl, fun e he hbd => ih e.on (hb j _ (List.getElem?_eq_getElem hj) e he hbd) (Nat.lt_trans (hb j _ (List.getElem?_eq_getElem hj) e he hbd) hj)⟩; rw [h] at this
      cases this

theorem any_push {l0 : List Oper} {o : Oper} {Q : Exit → Act → World → Prop} (hd : o.dst = none) (hb : ∀ (i : Nat) (o : Oper), l0[i]? = some o → ∀ e ∈ o.after, Region.binds .any e = true → e.on < i)
    (hbo : ∀ e ∈ o.after, Region.binds .any e = true → e.on < l0.length) (hl : ∀ j, j < l0.length → ∃ f, reach (l0 ++ [o]).toArray f l0.length j = true) : ∀ (fuel : Nat) (listed : Array Bool) (a : Act) (w : World), listed.size = l0.length → Cl l0 listed →
    wpAny P .any l0.toArray (fun e a' w' => e = Exit.normal ∧ wpList P (l0 ++ [o]).toArray Q [o] a' w') fuel listed a w → wpAny P .any (l0 ++ [o]).toArray Q (fuel + 1) (listed.push false) a w := by
  intro fuel
  -- the last one alone is left
  have last : ∀ (f : Nat) (listed : Array Bool) (a : Act) (w : World), listed.size = l0.length → (∀ j, j < l0.length → listed.getD j false = true) → wpList P (l0 ++ [o]).toArray Q [o] a w → wpAny P .any (l0 ++ [o]).toArray Q (f + 1) (listed.push false) a w := by
    intro f listed a w hs hall h; have hn : l0.length ∈ Region.ready .any (l0 ++ [o]).toArray (listed.push false) := ready_mem.2 ⟨o, by simp, by rw [Array.getD_eq_getD_getElem?, ← hs, Array.getElem?_push_size]; rfl, fun e he hbd => by
      have := hbo e he hbd; rw [getD_push _ _ _ _ (by omega)]; exact hall _ this⟩
    have hend : Region.ready .any (l0 ++ [o]).toArray ((listed.push false).setIfInBounds l0.length true) = [] := by
      rw [List.eq_nil_iff_forall_not_mem]; intro i hi; obtain ⟨o', h1, h2, _⟩ := ready_mem.1 hi; have hil : i < l0.length + 1 := by have := (Array.getElem?_eq_some_iff.1 h1).1; simpa using this
      rw [Array.getD_eq_getD_getElem?, Array.getElem?_setIfInBounds] at h2
      by_cases he : l0.length = i
      · subst he; simp [hs] at h2
      · rw [if_neg he, Array.getElem?_push_lt (by omega)] at h2; have := hall i (by omega); rw [Array.getD_eq_getD_getElem?, Array.getElem?_eq_getElem (by omega)] at this; simp at h2 this; rw [this] at h2
        cases h2
    refine ⟨fun e => (by rw [e] at hn; cases hn), fun i hi => ?_⟩; have hi2 : i = l0.length := by
      obtain ⟨o', h1, h2, _⟩ := ready_mem.1 hi; have hil : i < l0.length + 1 := by have := (Array.getElem?_eq_some_iff.1 h1).1; simpa using this
      rcases Nat.lt_or_ge i l0.length with hlt | hge
      · exfalso
        rw [getD_push _ _ _ _ (by omega), getD_same (by omega) true false, hall i hlt] at h2
        cases h2
      · omega
    subst hi2; unfold wpOp; have ho : (l0 ++ [o]).toArray[l0.length]? = some o := by simp
    rw [ho]
    dsimp only
    rw [wpList] at h; have fin : ∀ a' w', wpList P (l0 ++ [o]).toArray Q [] a' w' → wpAny P .any (l0 ++ [o]).toArray Q f ((listed.push false).setIfInBounds l0.length true) a' w' := by
      intro a' w' hq; have hq : Q .normal a' w' := hq
      cases f with
      | zero => exact ⟨hend, hq⟩
      | succ f => exact ⟨fun _ => hq, fun i hi => by rw [hend] at hi; cases hi⟩
    by_cases hw : Region.wanted o (yielded (l0 ++ [o]).toArray a.tmps) = true
    · rw [if_pos hw] at h ⊢; exact h.imp (fun h => Oper.wp_mono fin h) id
    · rw [if_neg hw] at h ⊢; exact fin _ _ h
  induction fuel with
  | zero =>
    intro listed a w hs hc h; exact last 0 listed a w hs (all_listed hb hs h.1) h.2.2
  | succ fuel ih =>
    intro listed a w hs hc h
    by_cases hr : Region.ready .any l0.toArray listed = []
    · exact last (fuel + 1) listed a w hs (all_listed hb hs hr) (h.1 hr).2
    · have sub : ∀ i, i < l0.length → (i ∈ Region.ready .any (l0 ++ [o]).toArray (listed.push false) ↔ i ∈ Region.ready .any l0.toArray listed) := by
        intro i hi; rw [ready_mem, ready_mem]; simp only [List.getElem?_toArray]; rw [List.getElem?_append_left hi, getD_push _ _ _ _ (by omega)]
        constructor
        · rintro ⟨o', h1, h2, h3⟩; exact ⟨o', h1, h2, fun e he hbd => by have := h3 e he hbd; rwa [getD_push _ _ _ _ (by have := hb i o' h1 e he hbd; omega)] at this⟩
        · rintro ⟨o', h1, h2, h3⟩; exact ⟨o', h1, h2, fun e he hbd => by rw [getD_push _ _ _ _ (by have := hb i o' h1 e he hbd; omega)]; exact h3 e he hbd⟩
      have notlast : l0.length ∉ Region.ready .any (l0 ++ [o]).toArray (listed.push false) := by
        intro hm; obtain ⟨o', h1, h2, h3⟩ := ready_mem.1 hm; have ho : o' = o := by simpa using h1.symm
        subst ho
        apply hr
        rw [List.eq_nil_iff_forall_not_mem]; intro j hj; obtain ⟨oj, hj1, hj2, _⟩ := ready_mem.1 hj; have hjl : j < l0.length := by have := (Array.getElem?_eq_some_iff.1 hj1).1; simpa using this
        obtain ⟨f, hf⟩ := hl j hjl; have := reach_listed (ops := (l0 ++ [o']).toArray) (listed := listed.push false) (fun k ok hk hlk e he hbd => by
          have hk' : k < l0.length + 1 := by have := (Array.getElem?_eq_some_iff.1 hk).1; simpa using this
          rcases Nat.lt_or_ge k l0.length with hlt | hge
          · rw [getD_push _ _ _ _ (by omega), getD_same (by omega) true false] at hlk; simp only [List.getElem?_toArray] at hk; rw [List.getElem?_append_left hlt] at hk; rw [getD_push _ _ _ _ (by have := hb k ok hk e he hbd; omega)]; exact hc k ok hk hlk e he hbd
          · obtain rfl : k = l0.length := by omega
            rw [h2] at hlk
            cases hlk) f l0.length j o' (by simp) h3 hf
        rw [getD_push _ _ _ _ (by omega), getD_same (by omega) false true, hj2] at this
        cases this
      refine ⟨fun e => ?_, fun i hi => ?_⟩
      · exfalso
        apply hr
        rw [List.eq_nil_iff_forall_not_mem]; intro j hj; obtain ⟨oj, hj1, _⟩ := ready_mem.1 hj; have hjl : j < l0.length := by have := (Array.getElem?_eq_some_iff.1 hj1).1; simpa using this
        have := (sub j hjl).2 hj; rw [e] at this
        cases this
      · have hil : i < l0.length := by
          obtain ⟨oi, hi1, _⟩ := ready_mem.1 hi; have h' : i < l0.length + 1 := by have := (Array.getElem?_eq_some_iff.1 hi1).1; simpa using this
          rcases Nat.lt_or_ge i l0.length with hlt | hge
          · exact hlt
          · obtain rfl : i = l0.length := by omega
            exact (notlast hi).elim
        have hi0 := (sub i hil).1 hi; have h2 := h.2 i hi0; obtain ⟨oi, hoi, hni, hei⟩ := ready_mem.1 hi0; have hoi' : (l0 ++ [o]).toArray[i]? = some oi := by
          simp only [List.getElem?_toArray] at hoi ⊢; rw [List.getElem?_append_left hil]; exact hoi
        have hset : (listed.push false).setIfInBounds i true = (listed.setIfInBounds i true).push false := by
          apply Array.ext_getElem?
          intro k; rw [Array.getElem?_setIfInBounds, Array.getElem?_push, Array.getElem?_push, Array.getElem?_setIfInBounds]; have h5 : i < listed.size := by omega
          by_cases hk : i = k
          · subst hk; have h6 : ¬ i = listed.size := by omega
            simp [h5, h6]; omega
          · simp [hk]
        have hcl : Cl l0 (listed.setIfInBounds i true) := by
          intro j oj hj hlj e he hbd; have mono : ∀ k, listed.getD k false = true → (listed.setIfInBounds i true).getD k false = true := by
            intro k hk; rw [Array.getD_eq_getD_getElem?, Array.getElem?_setIfInBounds]
            split
            · split
              · rfl
              · rename_i h3 h4
                subst h3; rw [Array.getD_eq_getD_getElem?, Array.getElem?_eq_none (by omega)] at hk
                cases hk
            · rw [Array.getD_eq_getD_getElem?] at hk; exact hk
          by_cases hji : j = i
          · subst hji; simp only [List.getElem?_toArray] at hoi; rw [hj] at hoi; injection hoi with hoi
            subst hoi; exact mono _ (hei e he hbd)
          · refine mono _ (hc j oj hj ?_ e he hbd); rw [Array.getD_eq_getD_getElem?, Array.getElem?_setIfInBounds, if_neg (fun e => hji e.symm)] at hlj; rw [Array.getD_eq_getD_getElem?]; exact hlj
        have go : ∀ a' w', wpAny P .any l0.toArray (fun e a' w' => e = Exit.normal ∧ wpList P (l0 ++ [o]).toArray Q [o] a' w') fuel (listed.setIfInBounds i true) a' w' → wpAny P .any (l0 ++ [o]).toArray Q (fuel + 1) ((listed.push false).setIfInBounds i true) a' w' := by
          intro a' w' hh; rw [hset]; exact ih _ a' w' (by simpa using hs) hcl hh
        unfold wpOp at h2 ⊢; rw [hoi] at h2; rw [hoi']
        dsimp only at h2 ⊢
        rw [yielded_last hd]; have hlo : ¬ LetsOut (fun e a' w' => e = Exit.normal ∧ wpList P (l0 ++ [o]).toArray Q [o] a' w') := fun ⟨_, _, e, _⟩ => by cases e
        by_cases hw : Region.wanted oi (yielded l0.toArray a.tmps) = true
        · rw [if_pos hw] at h2 ⊢
          rcases h2 with h2 | ⟨_, h2⟩
          · exact .inl (wp_q (fun ch a w hq => by cases hq.1) hlo (Oper.wp_mono go h2))
          · exact (hlo h2).elim
        · rw [if_neg hw] at h2 ⊢; exact go _ _ h2
end

/-- may the last one be walked behind the others? -/
def lastB (l : List Oper) : Bool := match l.getLast? with
  | none => false
  | some o => o.dst.isNone && (o.after.all fun e => !Region.binds .any e || decide (e.on < l.length - 1)) && (List.range (l.length - 1)).all fun j => reach l.toArray 60 (l.length - 1) j
theorem wp_last {P : Program} {id : Nat} {l : List Oper} {Q : Exit → Act → World → Prop} {a0 : Act} {I : World → Prop} {Gr : World → World → Prop} {w : World} (hm : P.follows .mixedOrders = true) (hne : l ≠ [])
    (hw : wellB l.dropLast.toArray a0.tmps.size = true) (hlast : lastB l = true) (hI : I w.drew)
    (h : Seq P l.dropLast.toArray (fun e a w => e = Exit.normal ∧ wpList P l.toArray Q [l.getLast hne] a w) a0 I Gr l.dropLast []) : (Code.region id l.toArray true).wp P Q a0 w := by
  have hsplit : l.dropLast ++ [l.getLast hne] = l := List.dropLast_concat_getLast hne; have hlen : l.dropLast.length = l.length - 1 := by simp
  obtain ⟨Us, h1, h2, h3, h4⟩ := From.collect l.dropLast 0 [] rfl h; unfold lastB at hlast; rw [show l.getLast? = some (l.getLast hne) from List.getLast?_eq_some_getLast hne] at hlast; simp only [Bool.and_eq_true] at hlast; obtain ⟨⟨l1, l2⟩, l3⟩ := hlast; have base := any_of_inv (P := P) (ops := l.dropLast.toArray) (Q := fun e a w => e = Exit.normal ∧ wpList P l.toArray Q [l.getLast hne] a w) (a0 := a0) (I := I) (Gr := Gr) (Ts := Us) hw (by simpa using h1) h2 (fun k o T ho hT => by simpa using h3 k o T (by simpa using ho) hT) (by simpa using h4) l.dropLast.length (Array.replicate l.dropLast.length false) a0 w.drew ?_ ?_
  · have := any_push (P := P) (l0 := l.dropLast) (o := l.getLast hne) (Q := Q) (by simpa using l1)
      (fun i o ho e he hb => well_back hw (ops := l.dropLast.toArray) (by simpa using ho) he)
      (fun e he hb => by have := Array.all_eq_true_iff_forall_mem.1 l2 e he; rw [hlen]; simpa [hb] using this)
      (fun j hj => ⟨60, by have := List.all_eq_true.1 l3 j (List.mem_range.2 (by omega)); rw [hsplit, hlen]; exact this⟩)
      l.dropLast.length (Array.replicate l.dropLast.length false) a0 w.drew (by simp) (fun j o ho hl => by
        rw [Array.getD_eq_getD_getElem?, Array.getElem?_replicate] at hl
        split at hl <;> cases hl) (by rw [hsplit]; exact base)
    rw [hsplit] at this; have hz : (Array.replicate l.dropLast.length false).push false = Array.replicate l.toArray.size false := by
      rw [← Array.replicate_succ]
      congr 1
      have := List.length_pos_iff.2 hne; simp; omega
    rw [hz] at this; refine wp_region_any hm ?_; have hz2 : l.toArray.size = l.dropLast.length + 1 := by
      have := List.length_pos_iff.2 hne; simp; omega
    have e : ({ w with drawn := w.drawn + 1 } : World) = w.drew := rfl; rw [e]; rw [hz2] at this ⊢; exact this
  · have : ∀ n l, cnt l n ≤ n := by
      intro n
      induction n with
      | zero => intro l; simp [cnt]
      | succ n ih => intro l; have := ih l; simp only [cnt]; split <;> omega
    simpa using this l.dropLast.toArray.size _
  · refine ⟨by simp, hI, rfl, rfl, fun j o T ho _ hl => ?_, fun _ _ => rfl, fun j o ho hl => ?_⟩
    all_goals
      have hj : j < l.dropLast.toArray.size := (Array.getElem?_eq_some_iff.1 ho).1; rw [Array.getD_eq_getD_getElem?] at hl; simp at hj; simp [hj] at hl
end Go.Proofs.Ytcnlgcmooegfkaa.Free
