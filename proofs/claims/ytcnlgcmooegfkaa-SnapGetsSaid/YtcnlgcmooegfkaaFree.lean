/-
  A LAW FOR A STATEMENT WHOSE ORDER IS OPEN (a region that draws its order): each operation is shown once, from what the operations give that it waits for; the orders are never told apart. The memory may grow on the way ('Gr').
-/
import Derived.Test.YtcnlgcmooegfkaaRows
import Derived.WalkKit
import Derived.Orders
import Derived.RegionTactic
import Derived.Below
namespace Go.Proofs.Ytcnlgcmooegfkaa.Free

abbrev Fact := Value → World → Prop

/-- the values of the operations, laid into the frame -/
def putAll : List Oper → Nat → (Nat → Value) → Act → Act
  | [], _, _, a => a
  | o :: l, i, v, a => putAll l (i + 1) v (a.put o.dst (v i))

/-- what operation o holds -/
def Holds (a : Act) (o : Oper) (T : Fact) (w : World) : Prop := ∃ v, (∀ d, o.dst = some d → a.tmps.getD d undef = v) ∧ T v w

/-- does o wait for number i? -/
def waits (o : Oper) (i : Nat) : Bool := o.after.toList.any fun e => Region.binds .any e && e.on == i

/-- what is known when number i, the operation o, comes up -/
structure Pre (ops : Array Oper) (Ts : List Fact) (a0 a : Act) (w : World) (i : Nat) (o : Oper) : Prop where
  size : a.tmps.size = a0.tmps.size
  held : ∀ e ∈ o.after, Region.binds .any e = true → ∀ T o', Ts[e.on]? = some T → ops[e.on]? = some o' → Holds a o' T w
  kept : ∀ d, (∀ o' ∈ ops.toList, o'.dst = some d → waits o' i = true) → a.tmps.getD d undef = a0.tmps.getD d undef

section
variable (P : Program) (ops : Array Oper) (Q : Exit → Act → World → Prop) (a0 : Act) (I : World → Prop) (Gr : World → World → Prop)

/-- what is asked of number i -/
def Oblige (Ts : List Fact) (i : Nat) (o : Oper) (T : Fact) : Prop :=
  ∀ a w, I w → Pre ops Ts a0 a w i o →
    if Region.wanted o (yielded ops a.tmps) = true then o.wp P a w (fun a' w' => ∃ v, a' = a.put o.dst v ∧ T v w' ∧ Gr w w' ∧ I w') Q else T undef w

/-- the operations, one behind the other -/
def From : List Oper → Nat → List Fact → Prop
  | [], _, Ts => ∀ (v : Nat → Value) w, I w → (∀ (j : Nat) (T : Fact), Ts[j]? = some T → T (v j) w) → Q .normal (putAll ops.toList 0 v a0) w
  | o :: rest, i, Ts => ∃ T : Fact, (∀ v w w', T v w → Gr w w' → T v w') ∧ Oblige P ops Q a0 I Gr Ts i o T ∧ From rest (i + 1) (Ts ++ [T])

variable {P ops Q a0 I Gr}

theorem From.collect : ∀ (rest : List Oper) (i : Nat) (Ts : List Fact), Ts.length = i → From P ops Q a0 I Gr rest i Ts →
    ∃ Us : List Fact, Us.length = rest.length ∧ (∀ T ∈ Us, ∀ v w w', T v w → Gr w w' → T v w') ∧
      (∀ (k : Nat) (o : Oper) (T : Fact), rest[k]? = some o → Us[k]? = some T → Oblige P ops Q a0 I Gr ((Ts ++ Us).take (i + k)) (i + k) o T) ∧
      (∀ (v : Nat → Value) w, I w → (∀ (j : Nat) (T : Fact), (Ts ++ Us)[j]? = some T → T (v j) w) → Q .normal (putAll ops.toList 0 v a0) w)
  | [], i, Ts, _, h => ⟨[], rfl, by simp, by simp, fun v w hI hT => h v w hI (by simpa using hT)⟩
  | o :: rest, i, Ts, hl, ⟨T, hm, ho, hr⟩ => by
    obtain ⟨Us, h1, h2, h3, h4⟩ := From.collect rest (i + 1) (Ts ++ [T]) (by simp [hl]) hr; refine ⟨T :: Us, by simp [h1], ?_, ?_, ?_⟩
    · intro T' hT'
      rcases List.mem_cons.1 hT' with rfl | hT'
      · exact hm
      · exact h2 T' hT'
    · intro k o' T' hk hk'
      match k, hk, hk' with
      | 0, hk, hk' =>
        simp at hk hk'; subst hk hk'; have : (Ts ++ T :: Us).take (i + 0) = Ts := by rw [Nat.add_zero, ← hl]; exact List.take_left
        rw [this]; exact ho
      | k + 1, hk, hk' =>
        have := h3 k o' T' (by simpa using hk) (by simpa using hk'); rw [show i + (k + 1) = i + 1 + k from by omega]
        simpa using this
    · intro v w hI hT; exact h4 v w hI (by simpa using hT)

/-! ### lists of marks -/
def cnt (listed : Array Bool) : Nat → Nat
  | 0 => 0
  | n + 1 => cnt listed n + if listed.getD n true = true then 0 else 1
theorem getD_set (l : Array Bool) (i j : Nat) (d : Bool) : (l.setIfInBounds i true).getD j d = if j = i ∧ i < l.size then true else l.getD j d := by
  rw [Array.getD_eq_getD_getElem?, Array.getElem?_setIfInBounds, Array.getD_eq_getD_getElem?]
  by_cases h : i = j
  · subst h
    by_cases h2 : i < l.size
    · simp [h2]
    · simp [h2]
  · simp [h, Ne.symm h]
theorem cnt_set (l : Array Bool) (i : Nat) (hi : i < l.size) (hu : l.getD i true = false) : ∀ n, cnt (l.setIfInBounds i true) n + (if i < n then 1 else 0) = cnt l n
  | 0 => by simp [cnt]
  | n + 1 => by
    have ih := cnt_set l i hi hu n; simp only [cnt, getD_set]
    by_cases h : n = i
    · subst h; simp [hi, hu] at ih ⊢; omega
    · by_cases h2 : i < n
      · have : i < n + 1 := by omega
        simp [h, h2, this] at ih ⊢; omega
      · have : ¬ i < n + 1 := by omega
        simp [h, h2, this] at ih ⊢; omega
theorem cnt_zero (l : Array Bool) : ∀ n, cnt l n = 0 → ∀ j, j < n → l.getD j true = true
  | 0, _, j, hj => by omega
  | n + 1, h, j, hj => by
    simp only [cnt] at h
    by_cases hn : l.getD n true = true
    · rcases Nat.lt_or_ge j n with h2 | h2
      · exact cnt_zero l n (by omega) j h2
      · obtain rfl : j = n := by omega
        exact hn
    · simp [hn] at h
theorem cnt_all (l : Array Bool) : ∀ n, (∀ j, j < n → l.getD j true = true) → cnt l n = 0
  | 0, _ => rfl
  | n + 1, h => by simp [cnt, h n (by omega), cnt_all l n (fun j hj => h j (by omega))]

/-! ### the frame -/
theorem getD_put (a : Act) (dst : Option Tmp) (v : Value) (d : Nat) : (a.put dst v).tmps.getD d undef = if dst = some d ∧ d < a.tmps.size then v else a.tmps.getD d undef := by
  cases dst with
  | none => simp [Act.put]
  | some c =>
    simp only [Act.put, Array.getD_eq_getD_getElem?, Array.getElem?_setIfInBounds, Option.some.injEq]
    by_cases h : c = d
    · subst h
      by_cases h2 : c < a.tmps.size
      · simp [h2]
      · simp [h2]
    · simp [h]
theorem size_put (a : Act) (dst : Option Tmp) (v : Value) : (a.put dst v).tmps.size = a.tmps.size := by
  cases dst <;> simp [Act.put]
theorem defers_put (a : Act) (dst : Option Tmp) (v : Value) : (a.put dst v).defers = a.defers := by
  cases dst <;> rfl
theorem size_putAll : ∀ (l : List Oper) (i : Nat) (v : Nat → Value) (a : Act), (putAll l i v a).tmps.size = a.tmps.size
  | [], _, _, _ => rfl
  | o :: l, i, v, a => by rw [putAll, size_putAll l, size_put]
theorem defers_putAll : ∀ (l : List Oper) (i : Nat) (v : Nat → Value) (a : Act), (putAll l i v a).defers = a.defers
  | [], _, _, _ => rfl
  | o :: l, i, v, a => by rw [putAll, defers_putAll l, defers_put]
theorem getD_putAll_far : ∀ (l : List Oper) (i : Nat) (v : Nat → Value) (a : Act) (d : Nat), (∀ o ∈ l, o.dst ≠ some d) → (putAll l i v a).tmps.getD d undef = a.tmps.getD d undef
  | [], _, _, _, _, _ => rfl
  | o :: l, i, v, a, d, h => by
    rw [putAll, getD_putAll_far l _ _ _ d (fun o' ho' => h o' (List.mem_cons_of_mem _ ho')), getD_put, if_neg (fun e => h o (List.mem_cons_self ..) e.1)]
theorem getD_putAll_at (v : Nat → Value) (o : Oper) (d : Nat) (ho : o.dst = some d) (l : List Oper) : ∀ (i : Nat) (a : Act) (k : Nat), l[k]? = some o → d < a.tmps.size →
    (∀ (j : Nat) (o' : Oper), l[j]? = some o' → o'.dst = some d → j = k) → (putAll l i v a).tmps.getD d undef = v (i + k) := by
  induction l with
  | nil => intro i a k hk; simp at hk
  | cons o' l ih =>
    intro i a k hk hd hu
    cases k with
    | zero =>
      simp at hk; subst hk; rw [putAll, getD_putAll_far l _ _ _ d, getD_put, if_pos ⟨ho, hd⟩, Nat.add_zero]; intro o'' ho'' e; obtain ⟨j, hj, rfl⟩ := List.mem_iff_getElem.1 ho''; have := hu (j + 1) _ (by simp [List.getElem?_eq_getElem hj]) e; omega
    | succ k =>
      rw [putAll, ih (i + 1) _ k (by simpa using hk) (by rw [size_put]; exact hd) (fun j o'' hj hd' => by
        have := hu (j + 1) o'' (by simpa using hj) hd'; omega), show i + 1 + k = i + (k + 1) from by omega]

/-! ### the law -/
/-- a region is well made: each operation waits for earlier ones alone; no slot is written twice; all slots are the frame's -/
def wellB (ops : Array Oper) (n : Nat) : Bool :=
  (List.range ops.size).all fun i => match ops[i]? with
    | none => true
    | some o => (o.after.all fun e => decide (e.on < i)) && (match o.dst with
      | none => true
      | some d => decide (d < n) && (List.range ops.size).all fun j => j == i || ((ops[j]?).bind (·.dst) != some d))

theorem well_back {n : Nat} (h : wellB ops n = true) {i : Nat} {o : Oper} (ho : ops[i]? = some o) {e : Edge} (he : e ∈ o.after) : e.on < i := by
  have hi : i < ops.size := (Array.getElem?_eq_some_iff.1 ho).1; have := List.all_eq_true.1 h i (List.mem_range.2 hi); simp only [ho, Bool.and_eq_true] at this; have h2 := Array.all_eq_true_iff_forall_mem.1 this.1 e he
  simpa using h2
theorem well_slot {n : Nat} (h : wellB ops n = true) {i : Nat} {o : Oper} (ho : ops[i]? = some o) {d : Nat} (hd : o.dst = some d) : d < n := by
  have hi : i < ops.size := (Array.getElem?_eq_some_iff.1 ho).1; have := List.all_eq_true.1 h i (List.mem_range.2 hi); simp only [ho, hd, Bool.and_eq_true] at this
  simpa using this.2.1
theorem well_once {n : Nat} (h : wellB ops n = true) {i j : Nat} {o o' : Oper} (ho : ops[i]? = some o) (ho' : ops[j]? = some o') {d : Nat} (hd : o.dst = some d) (hd' : o'.dst = some d) : j = i := by
  have hi : i < ops.size := (Array.getElem?_eq_some_iff.1 ho).1; have hj : j < ops.size := (Array.getElem?_eq_some_iff.1 ho').1; have := List.all_eq_true.1 h i (List.mem_range.2 hi); simp only [ho, hd, Bool.and_eq_true] at this; have h2 := List.all_eq_true.1 this.2.2 j (List.mem_range.2 hj); simp only [ho', Option.bind_some, hd', Bool.or_eq_true, beq_iff_eq, bne_self_eq_false, Bool.false_eq_true, or_false] at h2; exact h2

structure Inv (ops : Array Oper) (Ts : List Fact) (a0 : Act) (I : World → Prop) (listed : Array Bool) (a : Act) (w : World) : Prop where
  lsize : listed.size = ops.size
  inv : I w
  defers : a.defers = a0.defers
  size : a.tmps.size = a0.tmps.size
  held : ∀ (j : Nat) (o : Oper) (T : Fact), ops[j]? = some o → Ts[j]? = some T → listed.getD j true = true → Holds a o T w
  kept : ∀ d, (∀ (j : Nat) (o : Oper), ops[j]? = some o → listed.getD j true = true → o.dst ≠ some d) → a.tmps.getD d undef = a0.tmps.getD d undef
  closed : ∀ (j : Nat) (o : Oper), ops[j]? = some o → listed.getD j true = true → ∀ e ∈ o.after, Region.binds .any e = true → listed.getD e.on false = true

theorem any_of_inv {Ts : List Fact} (hw : wellB ops a0.tmps.size = true) (hl : Ts.length = ops.size) (hmono : ∀ T ∈ Ts, ∀ v w w', T v w → Gr w w' → T v w')
    (hob : ∀ (k : Nat) (o : Oper) (T : Fact), ops[k]? = some o → Ts[k]? = some T → Oblige P ops Q a0 I Gr (Ts.take k) k o T)
    (hfin : ∀ (v : Nat → Value) w, I w → (∀ (j : Nat) (T : Fact), Ts[j]? = some T → T (v j) w) → Q .normal (putAll ops.toList 0 v a0) w) :
    ∀ (fuel : Nat) (listed : Array Bool) (a : Act) (w : World), cnt listed ops.size ≤ fuel → Inv ops Ts a0 I listed a w → wpAny P .any ops Q fuel listed a w := by
  -- all have come up
  have fin : ∀ (listed : Array Bool) (a : Act) (w : World), (∀ j, j < ops.size → listed.getD j true = true) → Inv ops Ts a0 I listed a w → Q .normal a w := by
    intro listed a w hall hi; have hex : ∀ j : Nat, ∃ v : Value, ∀ (o : Oper) (T : Fact), ops[j]? = some o → Ts[j]? = some T → (∀ d, o.dst = some d → a.tmps.getD d undef = v) ∧ T v w := by
      intro j
      by_cases hj : j < ops.size
      · have hTj : Ts[j]? = some (Ts[j]'(by omega)) := List.getElem?_eq_getElem (by omega); obtain ⟨v, h1, h2⟩ := hi.held j ops[j] _ (Array.getElem?_eq_getElem hj) hTj (hall j hj); refine ⟨v, fun o T ho hT => ?_⟩; rw [Array.getElem?_eq_getElem hj] at ho; rw [hTj] at hT; injection ho with ho
        injection hT with hT
        subst ho hT; exact ⟨h1, h2⟩
      · exact ⟨undef, fun o T ho _ => absurd (Array.getElem?_eq_some_iff.1 ho).1 hj⟩
    obtain ⟨v, hv⟩ := Classical.axiomOfChoice hex; have hQ := hfin v w hi.inv (fun j T hT => by
      have hj : j < Ts.length := (List.getElem?_eq_some_iff.1 hT).1; exact (hv j ops[j] T (Array.getElem?_eq_getElem (by omega)) hT).2)
    have he : a = putAll ops.toList 0 v a0 := by
      have ht : a.tmps = (putAll ops.toList 0 v a0).tmps := by
        apply Array.ext
        · rw [size_putAll, hi.size]
        · intro d h1 h2; have key : a.tmps.getD d undef = (putAll ops.toList 0 v a0).tmps.getD d undef := by
            by_cases hx : ∃ (j : Nat) (o : Oper), ops[j]? = some o ∧ o.dst = some d
            · obtain ⟨j, o, ho, hd⟩ := hx; have hj : j < ops.size := (Array.getElem?_eq_some_iff.1 ho).1; rw [(hv j o (Ts[j]'(by omega)) ho (List.getElem?_eq_getElem (by omega))).1 d hd]; rw [getD_putAll_at v o d hd ops.toList 0 a0 j (by simpa using ho) (well_slot hw ho hd) (fun j' o' hj' hd' => well_once hw ho (by simpa using hj') hd hd'), Nat.zero_add]
            · rw [getD_putAll_far ops.toList 0 v a0 d (fun o ho hd => by
                obtain ⟨j, hj⟩ := List.mem_iff_getElem?.1 ho; exact hx ⟨j, o, by simpa using hj, hd⟩)]
              exact hi.kept d (fun j o ho _ hd => hx ⟨j, o, ho, hd⟩)
          simpa [Array.getD_eq_getD_getElem?, h1, h2] using key
      have hd : a.defers = (putAll ops.toList 0 v a0).defers := by rw [defers_putAll, hi.defers]
      cases a
      cases h : putAll ops.toList 0 v a0
      simp_all
    rw [he]; exact hQ
  -- nothing may come up: all have
  have done : ∀ (listed : Array Bool) (a : Act) (w : World), Inv ops Ts a0 I listed a w → Region.ready .any ops listed = [] → ∀ j, j < ops.size → listed.getD j true = true := by
    intro listed a w hi hr j
    induction j using Nat.strongRecOn with
    | _ j ih =>
      intro hj
      by_cases hlj : listed.getD j true = true
      · exact hlj
      · have hlj' : listed.getD j true = false := by simpa using hlj
        have : j ∈ Region.ready .any ops listed := by
          rw [mem_ready]; refine ⟨hlj', ops[j], Array.getElem?_eq_getElem hj, fun e he _ => ?_⟩; have hlt := well_back hw (Array.getElem?_eq_getElem hj) he; have := ih e.on hlt (by omega); rw [Array.getD_eq_getD_getElem?] at this ⊢; have hb : e.on < listed.size := by rw [hi.lsize]; omega
          simpa [hb] using this
        rw [hr] at this
        cases this
  -- one step
  have step : ∀ (listed : Array Bool) (a : Act) (w : World), Inv ops Ts a0 I listed a w → ∀ i ∈ Region.ready .any ops listed, ∀ K : Act → World → Prop,
      (∀ a' w', Inv ops Ts a0 I (listed.setIfInBounds i true) a' w' → K a' w') → wpOp P ops Q i K a w := by
    intro listed a w hi i hir K hK; obtain ⟨hun, o, ho, hall⟩ := mem_ready.1 hir; have hisz : i < ops.size := (Array.getElem?_eq_some_iff.1 ho).1; have hil : i < listed.size := by rw [hi.lsize]; exact hisz
    have hTi : Ts[i]? = some (Ts[i]'(by omega)) := List.getElem?_eq_getElem (by omega); have inb : ∀ j, listed.getD j false = true → listed.getD j true = true := by
      intro j hj; rw [Array.getD_eq_getD_getElem?] at hj ⊢
      cases h : listed[j]? with
      | none => rfl
      | some b => rw [h] at hj; exact hj
    have pre : Pre ops (Ts.take i) a0 a w i o := by
      refine ⟨hi.size, fun e he hb T o' hT ho' => ?_, fun d hd => hi.kept d (fun j o' ho' hlj hdj => ?_)⟩
      · have hlt := well_back hw ho he; exact hi.held e.on o' T ho' (by rw [List.getElem?_take, if_pos hlt] at hT; exact hT) (inb _ (hall e he hb))
      · have hwt := hd o' (by
          obtain ⟨hj, e⟩ := Array.getElem?_eq_some_iff.1 ho'; rw [← e]; simp) hdj
        unfold waits at hwt; obtain ⟨e, he, h2⟩ := List.any_eq_true.1 hwt; simp only [Bool.and_eq_true, beq_iff_eq] at h2; have := inb _ (hi.closed j o' ho' hlj e (by simpa using he) h2.1); rw [h2.2, hun] at this
        cases this
    have hO := hob i o _ ho hTi a w hi.inv pre
    -- the state behind it
    have next : ∀ v w', (Ts[i]'(by omega)) v w' → (∀ (T : Fact), T ∈ Ts → ∀ u, T u w → T u w') → I w' → Inv ops Ts a0 I (listed.setIfInBounds i true) (a.put o.dst v) w' := by
      intro v w' hT hg hI; refine ⟨by simp [hi.lsize], hI, by rw [defers_put, hi.defers], by rw [size_put, hi.size], ?_, ?_, ?_⟩
      · intro j o' T' ho' hT' hlj
        by_cases hji : j = i
        · subst hji; rw [ho] at ho'; injection ho' with ho'
          subst ho'; rw [hTi] at hT'; injection hT' with hT'
          subst hT'; refine ⟨v, fun d hd => ?_, hT⟩; rw [getD_put, if_pos ⟨hd, by rw [hi.size]; exact well_slot hw ho hd⟩]
        · rw [getD_set, if_neg (fun h => hji h.1)] at hlj; obtain ⟨u, hu, hTu⟩ := hi.held j o' T' ho' hT' hlj; refine ⟨u, fun d hd => ?_, hg T' (List.mem_of_getElem? hT') u hTu⟩; rw [getD_put, if_neg (fun h => hji (well_once hw ho ho' h.1 hd))]; exact hu d hd
      · intro d hd; rw [getD_put, if_neg (fun h => hd i o ho (by rw [getD_set, if_pos ⟨rfl, hil⟩]) h.1)]; refine hi.kept d (fun j o' ho' hlj => hd j o' ho' ?_); rw [getD_set]
        split
        · rfl
        · exact hlj
      · intro j o' ho' hlj e he hb; rw [getD_set]
        split
        · rfl
        · by_cases hji : j = i
          · subst hji; rw [ho] at ho'; injection ho' with ho'
            subst ho'; exact hall e he hb
          · rw [getD_set, if_neg (fun h => hji h.1)] at hlj; exact hi.closed j o' ho' hlj e he hb
    unfold wpOp; simp only [ho]
    split
    · rename_i hwt
      rw [if_pos hwt] at hO; refine .inl (Oper.wp_mono (fun a' w' ⟨v, ha, hT, hgr, hI⟩ => ?_) hO); subst ha; exact hK _ _ (next v w' hT (fun T hTm u hu => hmono T hTm u w w' hu hgr) hI)
    · rename_i hwt
      rw [if_neg hwt] at hO; exact hK _ _ (next undef w hO (fun _ _ _ h => h) hi.inv)
  intro fuel
  induction fuel with
  | zero =>
    intro listed a w hc hi; have hall := cnt_zero listed ops.size (by omega); refine ⟨?_, fin listed a w hall hi⟩
    cases h : Region.ready .any ops listed with
    | nil => rfl
    | cons i r =>
      have hir : i ∈ Region.ready .any ops listed := by rw [h]; exact List.mem_cons_self ..
      obtain ⟨hun, o, ho, _⟩ := mem_ready.1 hir; rw [hall i (Array.getElem?_eq_some_iff.1 ho).1] at hun
      cases hun
  | succ fuel ih =>
    intro listed a w hc hi; refine ⟨fun hr => fin listed a w (done listed a w hi hr) hi, fun i hir => ?_⟩; refine step listed a w hi i hir _ (fun a' w' hi' => ih _ a' w' ?_ hi'); obtain ⟨hun, o, ho, _⟩ := mem_ready.1 hir; have hisz : i < ops.size := (Array.getElem?_eq_some_iff.1 ho).1; have := cnt_set listed i (by rw [hi.lsize]; exact hisz) hun ops.size; rw [if_pos hisz] at this; omega

/-- THE LAW -/
theorem wp_free {id : Nat} {w : World} (hm : P.follows .mixedOrders = true) (hw : wellB ops a0.tmps.size = true) (hI : I w.drew)
    (h : From P ops Q a0 I Gr ops.toList 0 []) : (Code.region id ops true).wp P Q a0 w := by
  obtain ⟨Us, h1, h2, h3, h4⟩ := From.collect ops.toList 0 [] rfl h; refine wp_region_any hm (any_of_inv (Ts := Us) hw (by simpa using h1) h2 (fun k o T ho hT => by simpa using h3 k o T (by simpa using ho) hT) (by simpa using h4) _ _ _ _ ?_ ?_)
  · have : ∀ n l, cnt l n ≤ n := by
      intro n
      induction n with
      | zero => intro l; simp [cnt]
      | succ n ih => intro l; have := ih l; simp only [cnt]; split <;> omega
    exact this _ _
  · refine ⟨by simp, hI, rfl, rfl, fun j o T ho _ hl => ?_, fun _ _ => rfl, fun j o ho hl => ?_⟩
    all_goals
      have hj : j < ops.size := (Array.getElem?_eq_some_iff.1 ho).1; rw [Array.getD_eq_getD_getElem?] at hl; simp [hj] at hl

/-! ### the steps -/
/-- the operation has the value X -/
def eqF (X : Value) : Fact := fun v _ => v = X
/-- may slot d be read by number i as it stood ahead of the region? -/
def keptB (ops : Array Oper) (i d : Nat) : Bool := ops.toList.all fun o => (o.dst != some d) || waits o i
theorem Pre.slot {Ts : List Fact} {a : Act} {w : World} {i : Nat} {o : Oper} (h : Pre ops Ts a0 a w i o) (d : Nat) (hk : keptB ops i d = true) : a.tmps.getD d undef = a0.tmps.getD d undef :=
  h.kept d fun o' ho' hd => by
    have := List.all_eq_true.1 hk o' ho'
    simpa [hd] using this

theorem waits_mem {o : Oper} {j : Nat} (h : waits o j = true) : ∃ e ∈ o.after, Region.binds .any e = true ∧ e.on = j := by
  obtain ⟨e, he, h2⟩ := List.any_eq_true.1 h; simp only [Bool.and_eq_true, beq_iff_eq] at h2; exact ⟨e, by simpa using he, h2.1, h2.2⟩
/-- what number j has given, where number i waits for it -/
theorem Pre.get {Ts : List Fact} {a : Act} {w : World} {i : Nat} {o : Oper} (h : Pre ops Ts a0 a w i o) (j : Nat) {T : Fact} {o' : Oper} {d : Nat} (hj : waits o j = true) (hT : Ts[j]? = some T) (ho : ops[j]? = some o') (hd : o'.dst = some d) :
    T (a.tmps[d]?.getD undef) w := by
  obtain ⟨e, he, hb, rfl⟩ := waits_mem hj; obtain ⟨v, hv, hTv⟩ := h.held e he hb T o' hT ho; have : a.tmps[d]?.getD undef = v := by have := hv d hd; rwa [Array.getD_eq_getD_getElem?] at this
  rw [this]; exact hTv
theorem Pre.getV {Ts : List Fact} {a : Act} {w : World} {i : Nat} {o : Oper} (h : Pre ops Ts a0 a w i o) (j : Nat) {X : Value} {o' : Oper} {d : Nat} (hj : waits o j = true) (hT : Ts[j]? = some (eqF X)) (ho : ops[j]? = some o') (hd : o'.dst = some d) :
    a.tmps[d]?.getD undef = X := h.get j hj hT ho hd
theorem rev_get {Rs : List Fact} {j k : Nat} {T : Fact} (hT : Rs[k]? = some T) (hk : j + k + 1 = Rs.length) : Rs.reverse[j]? = some T := by
  rw [List.getElem?_reverse (by omega), ← hT]
  congr 1
  omega
/-- what number j has given, k operations back -/
theorem Pre.back {Rs : List Fact} {a : Act} {w : World} {i : Nat} {o : Oper} (h : Pre ops Rs.reverse a0 a w i o) (j k : Nat) {T : Fact} {o' : Oper} {d : Nat} (hj : waits o j = true) (hT : Rs[k]? = some T) (hk : j + k + 1 = Rs.length) (ho : ops[j]? = some o') (hd : o'.dst = some d) :
    T (a.tmps[d]?.getD undef) w := h.get j hj (rev_get hT hk) ho hd
theorem Pre.backV {Rs : List Fact} {a : Act} {w : World} {i : Nat} {o : Oper} (h : Pre ops Rs.reverse a0 a w i o) (j k : Nat) {X : Value} {o' : Oper} {d : Nat} (hj : waits o j = true) (hT : Rs[k]? = some (eqF X)) (hk : j + k + 1 = Rs.length) (ho : ops[j]? = some o') (hd : o'.dst = some d) :
    a.tmps[d]?.getD undef = X := h.back j k hj hT hk ho hd
theorem Pre.slotV {Ts : List Fact} {a : Act} {w : World} {i : Nat} {o : Oper} (h : Pre ops Ts a0 a w i o) (d : Nat) {X : Value} (hk : keptB ops i d = true) (hX : a0.tmps.getD d undef = X) : a.tmps[d]?.getD undef = X := by
  have := (h.slot d hk).trans hX
  rwa [Array.getD_eq_getD_getElem?] at this
theorem Pre.want {Ts : List Fact} {a : Act} {w : World} {i : Nat} {o : Oper} (_h : Pre ops Ts a0 a w i o) {j d : Nat} {b : Bool} {o' : Oper} (hg : o.guard = some (j, b)) (ho : ops[j]? = some o') (hd : o'.dst = some d) (he : a.tmps[d]?.getD undef = .bool b) :
    Region.wanted o (yielded ops a.tmps) = true := by
  have hs : a.tmps[d]? = some (.bool b) := by
    cases hx : a.tmps[d]? with
    | none => rw [hx] at he; simp [undef] at he
    | some v => rw [hx] at he; simpa using he
  simp [Region.wanted, hg, yielded, ho, hd, hs]
theorem Pre.pass {Ts : List Fact} {a : Act} {w : World} {i : Nat} {o : Oper} (_h : Pre ops Ts a0 a w i o) {j d : Nat} {b : Bool} {o' : Oper} (hg : o.guard = some (j, b)) (ho : ops[j]? = some o') (hd : o'.dst = some d) (he : a.tmps[d]?.getD undef = .bool !b) :
    Region.wanted o (yielded ops a.tmps) = false := by
  have hs : a.tmps[d]? = some (.bool !b) := by
    cases hx : a.tmps[d]? with
    | none => rw [hx] at he; simp [undef] at he
    | some v => rw [hx] at he; simpa using he
  simp [Region.wanted, hg, yielded, ho, hd, hs]
theorem want_none {ops : Array Oper} {a : Act} {o : Oper} (hg : o.guard = none) : Region.wanted o (yielded ops a.tmps) = true := by simp [Region.wanted, hg]

/-- all that holds at the end, a value at a time -/
def All : List Fact → (List Value → Prop) → World → Prop
  | [], K, _ => K []
  | T :: Ts, K, w => ∀ v, T v w → All Ts (fun vs => K (v :: vs)) w
def putL : List Oper → List Value → Act → Act
  | o :: l, v :: vs, a => putL l vs (a.put o.dst v)
  | _, _, a => a
theorem All.elim : ∀ (Ts : List Fact) (K : List Value → Prop) (w : World) (v : Nat → Value) (i : Nat), All Ts K w → (∀ (j : Nat) (T : Fact), Ts[j]? = some T → T (v (i + j)) w) → K ((List.range' i Ts.length).map v)
  | [], K, w, v, i, h, _ => by simpa [All] using h
  | T :: Ts, K, w, v, i, h, hT => by
    have h1 := All.elim Ts _ w v (i + 1) (h (v i) (by simpa using hT 0 T rfl)) (fun j T' hj => by
      have := hT (j + 1) T' (by simpa using hj)
      rwa [show i + (j + 1) = i + 1 + j from by omega] at this)
    simpa [List.range'_succ] using h1
theorem putAll_eq : ∀ (l : List Oper) (i : Nat) (v : Nat → Value) (a : Act), putAll l i v a = putL l ((List.range' i l.length).map v) a
  | [], _, _, _ => rfl
  | o :: l, i, v, a => by
    rw [putAll, putAll_eq l]; simp [List.range'_succ, putL]

/-- the operations, one behind the other; what they give stands in a list, the last one first -/
def Seq (P : Program) (ops : Array Oper) (Q : Exit → Act → World → Prop) (a0 : Act) (I : World → Prop) (Gr : World → World → Prop) (rest : List Oper) (Rs : List Fact) : Prop :=
  From P ops Q a0 I Gr rest Rs.length Rs.reverse
theorem Seq.done {Rs : List Fact} (hl : Rs.length = ops.toList.length) (h : ∀ w, I w → All Rs.reverse (fun vs => Q .normal (putL ops.toList vs a0) w) w) : Seq P ops Q a0 I Gr [] Rs := by
  intro v w hI hT; rw [putAll_eq, ← hl, ← List.length_reverse]; exact All.elim Rs.reverse _ w v 0 (h w hI) (fun j T hj => by rw [Nat.zero_add]; exact hT j T hj)
theorem wp_seq {id : Nat} {w : World} (hm : P.follows .mixedOrders = true) (hw : wellB ops a0.tmps.size = true) (hI : I w.drew)
    (h : Seq P ops Q a0 I Gr ops.toList []) : (Code.region id ops true).wp P Q a0 w := wp_free hm hw hI h

variable {o : Oper} {rest : List Oper} {Rs : List Fact}
/-- an operation that yields X, in whatever world -/
theorem Seq.val (X : Value) (hg : ∀ w, Gr w w) (h : ∀ a w, I w → Pre ops Rs.reverse a0 a w Rs.length o → Region.wanted o (yielded ops a.tmps) = true ∧ (execOp a.eval o).run P w = .ok (.value X) w)
    (hr : Seq P ops Q a0 I Gr rest (eqF X :: Rs)) : Seq P ops Q a0 I Gr (o :: rest) Rs := by
  refine ⟨eqF X, fun _ _ _ h _ => h, fun a w hI hp => ?_, by simpa [Seq] using hr⟩; obtain ⟨h1, h2⟩ := h a w hI hp; rw [if_pos h1]; simp only [Oper.wp, h2, Oper.upon]; exact ⟨X, rfl, rfl, hg w, hI⟩
/-- an operation that is passed over -/
theorem Seq.pass (h : ∀ a w, I w → Pre ops Rs.reverse a0 a w Rs.length o → Region.wanted o (yielded ops a.tmps) = false)
    (hr : Seq P ops Q a0 I Gr rest (eqF undef :: Rs)) : Seq P ops Q a0 I Gr (o :: rest) Rs := by
  refine ⟨eqF undef, fun _ _ _ h _ => h, fun a w hI hp => ?_, by simpa [Seq] using hr⟩; rw [if_neg (by rw [h a w hI hp]; exact Bool.false_ne_true)]; exact rfl
/-- an operation that yields something of which T holds; it may make memory -/
theorem Seq.op (T : Fact) (hm : ∀ v w w', T v w → Gr w w' → T v w')
    (h : ∀ a w, I w → Pre ops Rs.reverse a0 a w Rs.length o → Region.wanted o (yielded ops a.tmps) = true ∧ ∃ v w', (execOp a.eval o).run P w = .ok (.value v) w' ∧ T v w' ∧ Gr w w' ∧ I w')
    (hr : Seq P ops Q a0 I Gr rest (T :: Rs)) : Seq P ops Q a0 I Gr (o :: rest) Rs := by
  refine ⟨T, hm, fun a w hI hp => ?_, by simpa [Seq] using hr⟩; obtain ⟨h1, v, w', h2, h3⟩ := h a w hI hp; rw [if_pos h1]; simp only [Oper.wp, h2, Oper.upon]; exact ⟨v, rfl, h3⟩
/-- a call of a Go function -/
theorem Seq.call (T : Fact) (hm : ∀ v w w', T v w → Gr w w' → T v w')
    (h : ∀ a w, I w → Pre ops Rs.reverse a0 a w Rs.length o → Region.wanted o (yielded ops a.tmps) = true ∧ ∃ f args, (execOp a.eval o).run P w = .ok (.enter f args) w ∧ Calls P f args w fun e w' => ∃ v, e = .returned v ∧ T v w' ∧ Gr w w' ∧ I w')
    (hr : Seq P ops Q a0 I Gr rest (T :: Rs)) : Seq P ops Q a0 I Gr (o :: rest) Rs := by
  refine ⟨T, hm, fun a w hI hp => ?_, by simpa [Seq] using hr⟩; obtain ⟨h1, f, args, h2, h3⟩ := h a w hI hp; rw [if_pos h1]; simp only [Oper.wp, h2, Oper.upon]; refine h3.mono fun e w' ⟨v, he, hT, hg, hI'⟩ => ?_
  subst he; exact ⟨v, rfl, hT, hg, hI'⟩
/-! short forms -/
theorem Pre.b {Rs : List Fact} {a : Act} {w : World} {i : Nat} {o : Oper} (h : Pre ops Rs.reverse a0 a w i o) (j k : Nat) {X : Value} {o' : Oper} {d : Nat} (hj : waits o j = true := by exact rfl) (hT : Rs[k]? = some (eqF X) := by exact rfl) (hk : j + k + 1 = Rs.length := by exact rfl) (ho : ops[j]? = some o' := by exact rfl) (hd : o'.dst = some d := by exact rfl) :
    a.tmps[d]?.getD undef = X := h.backV j k hj hT hk ho hd
theorem Pre.sl {Ts : List Fact} {a : Act} {w : World} {i : Nat} {o : Oper} (h : Pre ops Ts a0 a w i o) (d : Nat) {X : Value} (hX : a0.tmps.getD d undef = X := by exact rfl) (hk : keptB ops i d = true := by kernel_rfl) : a.tmps[d]?.getD undef = X := h.slotV d hk hX
theorem Pre.wt {Ts : List Fact} {a : Act} {w : World} {i : Nat} {o : Oper} (h : Pre ops Ts a0 a w i o) {j d : Nat} {b : Bool} {o' : Oper} (he : a.tmps[d]?.getD undef = .bool b) (hg : o.guard = some (j, b) := by exact rfl) (ho : ops[j]? = some o' := by exact rfl) (hd : o'.dst = some d := by exact rfl) : Region.wanted o (yielded ops a.tmps) = true := h.want hg ho hd he
theorem wn {ops : Array Oper} {a : Act} {o : Oper} (hg : o.guard = none := by exact rfl) : Region.wanted o (yielded ops a.tmps) = true := want_none hg
theorem sv {X : Value} {Rs : List Fact} (h : ∀ a w, I w → Pre ops Rs.reverse a0 a w Rs.length o → Region.wanted o (yielded ops a.tmps) = true ∧ (execOp a.eval o).run P w = .ok (.value X) w)
    (hr : Seq P ops Q a0 I (fun x y => RowKit.Below x.heap.size x y) rest (eqF X :: Rs)) : Seq P ops Q a0 I (fun x y => RowKit.Below x.heap.size x y) (o :: rest) Rs := Seq.val X (fun _ => RowKit.Below.refl _ _) h hr
theorem sp {Rs : List Fact} (j k : Nat) {b : Bool} {o' : Oper} {d : Nat} (hr : Seq P ops Q a0 I Gr rest (eqF undef :: Rs)) (hg : o.guard = some (j, b) := by exact rfl) (hT : Rs[k]? = some (eqF (.bool !b)) := by exact rfl) (hj : waits o j = true := by exact rfl) (hk : j + k + 1 = Rs.length := by exact rfl) (ho : ops[j]? = some o' := by exact rfl) (hd : o'.dst = some d := by exact rfl) :
    Seq P ops Q a0 I Gr (o :: rest) Rs := Seq.pass (fun _ _ _ hp => hp.pass hg ho hd (hp.backV j k hj hT hk ho hd)) hr
end
end Go.Proofs.Ytcnlgcmooegfkaa.Free
