/-
  THE LAW FOR A REGION THAT DRAWS ITS ORDER, WHERE THE MEMORY TURNS ON THE WAY: what holds of the memory may hang on which operations have come up ('L').
-/
import Derived.Test.YtcnlgcmooegfkaaFree
namespace Go.Proofs.Ytcnlgcmooegfkaa.Free

/-- which operations have come up -/
abbrev Done := Nat → Bool
def upd (L : Done) (i : Nat) : Done := fun j => (j == i) || L j
/-- does number i wait for number j, directly or through others? -/
def reach (ops : Array Oper) : Nat → Nat → Nat → Bool
  | 0, _, _ => false
  | f + 1, i, j => match ops[i]? with
    | none => false
    | some o => o.after.toList.any fun e => Region.binds .any e && (e.on == j || reach ops f e.on j)

/-- a region is well made: each operation waits for earlier ones alone; no slot is written twice; all slots are the frame's -/
def wellB2 (ops : Array Oper) (n : Nat) : Bool :=
  (List.range ops.size).all fun i => match ops[i]? with
    | none => true
    | some o => (o.after.all fun e => !Region.binds .any e || decide (e.on < i)) && (match o.dst with
      | none => true
      | some d => decide (d < n) && (List.range ops.size).all fun j => j == i || ((ops[j]?).bind (·.dst) != some d))
theorem well_back2 {ops : Array Oper} {n : Nat} (h : wellB2 ops n = true) {i : Nat} {o : Oper} (ho : ops[i]? = some o) {e : Edge} (he : e ∈ o.after) (hb : Region.binds .any e = true) : e.on < i := by
  have hi : i < ops.size := (Array.getElem?_eq_some_iff.1 ho).1; have := List.all_eq_true.1 h i (List.mem_range.2 hi); simp only [ho, Bool.and_eq_true] at this; have h2 := Array.all_eq_true_iff_forall_mem.1 this.1 e he
  simpa [hb] using h2
theorem well_slot2 {ops : Array Oper} {n : Nat} (h : wellB2 ops n = true) {i : Nat} {o : Oper} (ho : ops[i]? = some o) {d : Nat} (hd : o.dst = some d) : d < n := by
  have hi : i < ops.size := (Array.getElem?_eq_some_iff.1 ho).1; have := List.all_eq_true.1 h i (List.mem_range.2 hi); simp only [ho, hd, Bool.and_eq_true] at this
  simpa using this.2.1
theorem well_once2 {ops : Array Oper} {n : Nat} (h : wellB2 ops n = true) {i j : Nat} {o o' : Oper} (ho : ops[i]? = some o) (ho' : ops[j]? = some o') {d : Nat} (hd : o.dst = some d) (hd' : o'.dst = some d) : j = i := by
  have hi : i < ops.size := (Array.getElem?_eq_some_iff.1 ho).1; have hj : j < ops.size := (Array.getElem?_eq_some_iff.1 ho').1; have := List.all_eq_true.1 h i (List.mem_range.2 hi); simp only [ho, hd, Bool.and_eq_true] at this; have h2 := List.all_eq_true.1 this.2.2 j (List.mem_range.2 hj); simp only [ho', Option.bind_some, hd', Bool.or_eq_true, beq_iff_eq, bne_self_eq_false, Bool.false_eq_true, or_false] at h2; exact h2

/-- what is known when number i comes up -/
structure Pre2 (ops : Array Oper) (Ts : List Fact) (a0 a : Act) (w : World) (i : Nat) (o : Oper) (L : Done) : Prop extends Pre ops Ts a0 a w i o where
  fresh : L i = false
  did : ∀ j f, reach ops f i j = true → L j = true
  up : ∀ j f, reach ops f j i = true → L j = false

section
variable (P : Program) (ops : Array Oper) (Q : Exit → Act → World → Prop) (a0 : Act) (I : Done → World → Prop) (Gr : World → World → Prop)

end
theorem Pre.passU {ops : Array Oper} {Ts : List Fact} {a0 a : Act} {w : World} {i : Nat} {o : Oper} (_h : Pre ops Ts a0 a w i o) {j d : Nat} {b : Bool} {o' : Oper} (hg : o.guard = some (j, b)) (ho : ops[j]? = some o') (hd : o'.dst = some d) (he : a.tmps[d]?.getD undef = undef) :
    Region.wanted o (yielded ops a.tmps) = false := by
  cases hx : a.tmps[d]? with
  | none => simp [Region.wanted, hg, yielded, ho, hd, hx]
  | some v =>
    rw [hx] at he; have he : v = undef := he; subst he; simp [Region.wanted, hg, yielded, ho, hd, hx, undef]
section
variable (P : Program) (ops : Array Oper) (Q : Exit → Act → World → Prop) (a0 : Act) (I : Done → World → Prop) (Gr : World → World → Prop)
/-- what is asked of number i -/
def Oblige2 (Ts : List Fact) (i : Nat) (o : Oper) (T : Fact) : Prop :=
  ∀ a w L, I L w → Pre2 ops Ts a0 a w i o L →
    if Region.wanted o (yielded ops a.tmps) = true then o.wp P a w (fun a' w' => ∃ v, a' = a.put o.dst v ∧ T v w' ∧ Gr w w' ∧ I (upd L i) w') Q else T undef w ∧ I (upd L i) w

def From2 : List Oper → Nat → List Fact → Prop
  | [], _, Ts => ∀ (v : Nat → Value) w L, I L w → (∀ j, j < ops.size → L j = true) → (∀ (j : Nat) (T : Fact), Ts[j]? = some T → T (v j) w) → Q .normal (putAll ops.toList 0 v a0) w
  | o :: rest, i, Ts => ∃ T : Fact, (∀ v w w', T v w → Gr w w' → T v w') ∧ Oblige2 P ops Q a0 I Gr Ts i o T ∧ From2 rest (i + 1) (Ts ++ [T])

variable {P ops Q a0 I Gr}

theorem From2.collect : ∀ (rest : List Oper) (i : Nat) (Ts : List Fact), Ts.length = i → From2 P ops Q a0 I Gr rest i Ts →
    ∃ Us : List Fact, Us.length = rest.length ∧ (∀ T ∈ Us, ∀ v w w', T v w → Gr w w' → T v w') ∧
      (∀ (k : Nat) (o : Oper) (T : Fact), rest[k]? = some o → Us[k]? = some T → Oblige2 P ops Q a0 I Gr ((Ts ++ Us).take (i + k)) (i + k) o T) ∧
      (∀ (v : Nat → Value) w L, I L w → (∀ j, j < ops.size → L j = true) → (∀ (j : Nat) (T : Fact), (Ts ++ Us)[j]? = some T → T (v j) w) → Q .normal (putAll ops.toList 0 v a0) w)
  | [], i, Ts, _, h => ⟨[], rfl, by simp, by simp, fun v w L hI hL hT => h v w L hI hL (by simpa using hT)⟩
  | o :: rest, i, Ts, hl, ⟨T, hm, ho, hr⟩ => by
    obtain ⟨Us, h1, h2, h3, h4⟩ := From2.collect rest (i + 1) (Ts ++ [T]) (by simp [hl]) hr; refine ⟨T :: Us, by simp [h1], ?_, ?_, ?_⟩
    · intro T' hT'
      rcases List.mem_cons.1 hT' with rfl | hT'
      · exact hm
      · exact h2 T' hT'
    · intro k o' T' hk hk'
      match k, hk, hk' with
      | 0, hk, hk' =>
        simp at hk hk'; subst hk hk'; have : (Ts ++ T :: Us).take (i + 0) = Ts := by rw [Nat.add_zero, ← hl]; exact List.take_left
        rw [this]; exact ho
      | k + 1, hk, hk' =>
        have := h3 k o' T' (by simpa using hk) (by simpa using hk'); rw [show i + (k + 1) = i + 1 + k from by omega]
        simpa using this
    · intro v w L hI hL hT; exact h4 v w L hI hL (by simpa using hT)

structure Inv2 (ops : Array Oper) (Ts : List Fact) (a0 : Act) (I : Done → World → Prop) (listed : Array Bool) (a : Act) (w : World) : Prop where
  base : Inv ops Ts a0 (fun _ => True) listed a w
  inv : I (fun j => listed.getD j false) w

theorem getD_set' (l : Array Bool) (i : Nat) (hi : i < l.size) : (fun j => (l.setIfInBounds i true).getD j false) = upd (fun j => l.getD j false) i := by
  funext j
  rw [Array.getD_eq_getD_getElem?, Array.getElem?_setIfInBounds]; unfold upd
  by_cases h : j = i
  · subst h; simp [hi]
  · have h' : ¬ (i = j) := fun e => h e.symm
    simp [h, h', Array.getD_eq_getD_getElem?]

theorem reach_listed {listed : Array Bool} (hc : ∀ (j : Nat) (o : Oper), ops[j]? = some o → listed.getD j true = true → ∀ e ∈ o.after, Region.binds .any e = true → listed.getD e.on false = true)
    : ∀ (f i j : Nat) (o : Oper), ops[i]? = some o → (∀ e ∈ o.after, Region.binds .any e = true → listed.getD e.on false = true) → reach ops f i j = true → listed.getD j false = true
  | 0, _, _, _, _, _, h => by simp [reach] at h
  | f + 1, i, j, o, ho, hi, h => by
    simp only [reach, ho] at h; obtain ⟨e, he, h2⟩ := List.any_eq_true.1 h; simp only [Bool.and_eq_true, Bool.or_eq_true, beq_iff_eq] at h2; have h1 := hi e (by simpa using he) h2.1
    rcases h2.2 with rfl | h3
    · exact h1
    · cases hk : ops[e.on]? with
      | none =>
        cases f with
        | zero => simp [reach] at h3
        | succ f => simp [reach, hk] at h3
      | some o' =>
        refine reach_listed hc f e.on j o' hk (hc e.on o' hk ?_) h3; rw [Array.getD_eq_getD_getElem?] at h1 ⊢
        cases hx : listed[e.on]? with
        | none => rfl
        | some b => rw [hx] at h1; exact h1

theorem any_of_inv2 {Ts : List Fact} (hw : wellB2 ops a0.tmps.size = true) (hl : Ts.length = ops.size) (hmono : ∀ T ∈ Ts, ∀ v w w', T v w → Gr w w' → T v w')
    (hob : ∀ (k : Nat) (o : Oper) (T : Fact), ops[k]? = some o → Ts[k]? = some T → Oblige2 P ops Q a0 I Gr (Ts.take k) k o T)
    (hfin : ∀ (v : Nat → Value) w L, I L w → (∀ j, j < ops.size → L j = true) → (∀ (j : Nat) (T : Fact), Ts[j]? = some T → T (v j) w) → Q .normal (putAll ops.toList 0 v a0) w) :
    ∀ (fuel : Nat) (listed : Array Bool) (a : Act) (w : World), cnt listed ops.size ≤ fuel → Inv2 ops Ts a0 I listed a w → wpAny P .any ops Q fuel listed a w := by
  have fin : ∀ (listed : Array Bool) (a : Act) (w : World), (∀ j, j < ops.size → listed.getD j true = true) → Inv2 ops Ts a0 I listed a w → Q .normal a w := by
    intro listed a w hall hi2; have hi := hi2.base; have hex : ∀ j : Nat, ∃ v : Value, ∀ (o : Oper) (T : Fact), ops[j]? = some o → Ts[j]? = some T → (∀ d, o.dst = some d → a.tmps.getD d undef = v) ∧ T v w := by
      intro j
      by_cases hj : j < ops.size
      · have hTj : Ts[j]? = some (Ts[j]'(by omega)) := List.getElem?_eq_getElem (by omega); obtain ⟨v, h1, h2⟩ := hi.held j ops[j] _ (Array.getElem?_eq_getElem hj) hTj (hall j hj); refine ⟨v, fun o T ho hT => ?_⟩; rw [Array.getElem?_eq_getElem hj] at ho; rw [hTj] at hT; injection ho with ho
        injection hT with hT
        subst ho hT; exact ⟨h1, h2⟩
      · exact ⟨undef, fun o T ho _ => absurd (Array.getElem?_eq_some_iff.1 ho).1 hj⟩
    obtain ⟨v, hv⟩ := Classical.axiomOfChoice hex; have hQ := hfin v w _ hi2.inv (fun j hj => by
      have h := hall j hj; rw [Array.getD_eq_getD_getElem?] at h ⊢; have hb : j < listed.size := by rw [hi.lsize]; exact hj
      simpa [hb] using h) (fun j T hT => by
      have hj : j < Ts.length := (List.getElem?_eq_some_iff.1 hT).1; exact (hv j ops[j] T (Array.getElem?_eq_getElem (by omega)) hT).2)
    have he : a = putAll ops.toList 0 v a0 := by
      have ht : a.tmps = (putAll ops.toList 0 v a0).tmps := by
        apply Array.ext
        · rw [size_putAll, hi.size]
        · intro d h1 h2; have key : a.tmps.getD d undef = (putAll ops.toList 0 v a0).tmps.getD d undef := by
            by_cases hx : ∃ (j : Nat) (o : Oper), ops[j]? = some o ∧ o.dst = some d
            · obtain ⟨j, o, ho, hd⟩ := hx; have hj : j < ops.size := (Array.getElem?_eq_some_iff.1 ho).1; rw [(hv j o (Ts[j]'(by omega)) ho (List.getElem?_eq_getElem (by omega))).1 d hd]; rw [getD_putAll_at v o d hd ops.toList 0 a0 j (by simpa using ho) (well_slot2 hw ho hd) (fun j' o' hj' hd' => well_once2 hw ho (by simpa using hj') hd hd'), Nat.zero_add]
            · rw [getD_putAll_far ops.toList 0 v a0 d (fun o ho hd => by
                obtain ⟨j, hj⟩ := List.mem_iff_getElem?.1 ho; exact hx ⟨j, o, by simpa using hj, hd⟩)]
              exact hi.kept d (fun j o ho _ hd => hx ⟨j, o, ho, hd⟩)
          simpa [Array.getD_eq_getD_getElem?, h1, h2] using key
      have hd : a.defers = (putAll ops.toList 0 v a0).defers := by rw [defers_putAll, hi.defers]
      cases a
      cases h : putAll ops.toList 0 v a0
      simp_all
    rw [he]; exact hQ
  have done : ∀ (listed : Array Bool) (a : Act) (w : World), Inv2 ops Ts a0 I listed a w → Region.ready .any ops listed = [] → ∀ j, j < ops.size → listed.getD j true = true := by
    intro listed a w hi2 hr j; have hi := hi2.base
    induction j using Nat.strongRecOn with
    | _ j ih =>
      intro hj
      by_cases hlj : listed.getD j true = true
      · exact hlj
      · have hlj' : listed.getD j true = false := by simpa using hlj
        have : j ∈ Region.ready .any ops listed := by
          rw [mem_ready]; refine ⟨hlj', ops[j], Array.getElem?_eq_getElem hj, fun e he hb => ?_⟩; have hlt := well_back2 hw (Array.getElem?_eq_getElem hj) he hb; have := ih e.on hlt (by omega); rw [Array.getD_eq_getD_getElem?] at this ⊢; have hb : e.on < listed.size := by rw [hi.lsize]; omega
          simpa [hb] using this
        rw [hr] at this
        cases this
  have step : ∀ (listed : Array Bool) (a : Act) (w : World), Inv2 ops Ts a0 I listed a w → ∀ i ∈ Region.ready .any ops listed, ∀ K : Act → World → Prop,
      (∀ a' w', Inv2 ops Ts a0 I (listed.setIfInBounds i true) a' w' → K a' w') → wpOp P ops Q i K a w := by
    intro listed a w hi2 i hir K hK; have hi := hi2.base; obtain ⟨hun, o, ho, hall⟩ := mem_ready.1 hir; have hisz : i < ops.size := (Array.getElem?_eq_some_iff.1 ho).1; have hil : i < listed.size := by rw [hi.lsize]; exact hisz
    have hTi : Ts[i]? = some (Ts[i]'(by omega)) := List.getElem?_eq_getElem (by omega); have inb : ∀ j, listed.getD j false = true → listed.getD j true = true := by
      intro j hj; rw [Array.getD_eq_getD_getElem?] at hj ⊢
      cases h : listed[j]? with
      | none => rfl
      | some b => rw [h] at hj; exact hj
    have pre : Pre2 ops (Ts.take i) a0 a w i o (fun j => listed.getD j false) := by
      refine ⟨⟨hi.size, fun e he hb T o' hT ho' => ?_, fun d hd => hi.kept d (fun j o' ho' hlj hdj => ?_)⟩, ?_, fun j f hr => ?_, fun j f hr => ?_⟩
      · have hlt := well_back2 hw ho he hb; exact hi.held e.on o' T ho' (by rw [List.getElem?_take, if_pos hlt] at hT; exact hT) (inb _ (hall e he hb))
      · have hwt := hd o' (by
          obtain ⟨hj, e⟩ := Array.getElem?_eq_some_iff.1 ho'; rw [← e]; simp) hdj
        unfold waits at hwt; obtain ⟨e, he, h2⟩ := List.any_eq_true.1 hwt; simp only [Bool.and_eq_true, beq_iff_eq] at h2; have := inb _ (hi.closed j o' ho' hlj e (by simpa using he) h2.1); rw [h2.2, hun] at this
        cases this
      · show listed.getD i false = false
        rw [Array.getD_eq_getD_getElem?] at hun ⊢
        simpa [hil] using hun
      · exact reach_listed hi.closed f i j o ho hall hr
      · by_cases hlj : listed.getD j false = true
        · exfalso
          cases hoj : ops[j]? with
          | none =>
            cases f with
            | zero => simp [reach] at hr
            | succ f => simp [reach, hoj] at hr
          | some oj =>
            have h2 := inb _ (reach_listed hi.closed f j i oj hoj (hi.closed j oj hoj (inb _ hlj)) hr); rw [hun] at h2
            cases h2
        · show listed.getD j false = false
          simpa using hlj
    have hO := hob i o _ ho hTi a w _ hi2.inv pre; have next : ∀ v w', (Ts[i]'(by omega)) v w' → (∀ (T : Fact), T ∈ Ts → ∀ u, T u w → T u w') → I (upd (fun j => listed.getD j false) i) w' → Inv2 ops Ts a0 I (listed.setIfInBounds i true) (a.put o.dst v) w' := by
      intro v w' hT hg hI; refine ⟨⟨by simp [hi.lsize], trivial, by rw [defers_put, hi.defers], by rw [size_put, hi.size], ?_, ?_, ?_⟩, by rw [getD_set' _ _ hil]; exact hI⟩
      · intro j o' T' ho' hT' hlj
        by_cases hji : j = i
        · subst hji; rw [ho] at ho'; injection ho' with ho'
          subst ho'; rw [hTi] at hT'; injection hT' with hT'
          subst hT'; refine ⟨v, fun d hd => ?_, hT⟩; rw [getD_put, if_pos ⟨hd, by rw [hi.size]; exact well_slot2 hw ho hd⟩]
        · rw [getD_set, if_neg (fun h => hji h.1)] at hlj; obtain ⟨u, hu, hTu⟩ := hi.held j o' T' ho' hT' hlj; refine ⟨u, fun d hd => ?_, hg T' (List.mem_of_getElem? hT') u hTu⟩; rw [getD_put, if_neg (fun h => hji (well_once2 hw ho ho' h.1 hd))]; exact hu d hd
      · intro d hd; rw [getD_put, if_neg (fun h => hd i o ho (by rw [getD_set, if_pos ⟨rfl, hil⟩]) h.1)]; refine hi.kept d (fun j o' ho' hlj => hd j o' ho' ?_); rw [getD_set]
        split
        · rfl
        · exact hlj
      · intro j o' ho' hlj e he hb; rw [getD_set]
        split
        · rfl
        · by_cases hji : j = i
          · subst hji; rw [ho] at ho'; injection ho' with ho'
            subst ho'; exact hall e he hb
          · rw [getD_set, if_neg (fun h => hji h.1)] at hlj; exact hi.closed j o' ho' hlj e he hb
    unfold wpOp; simp only [ho]
    split
    · rename_i hwt
      rw [if_pos hwt] at hO; refine .inl (Oper.wp_mono (fun a' w' ⟨v, ha, hT, hgr, hI⟩ => ?_) hO); subst ha; exact hK _ _ (next v w' hT (fun T hTm u hu => hmono T hTm u w w' hu hgr) hI)
    · rename_i hwt
      rw [if_neg hwt] at hO; exact hK _ _ (next undef w hO.1 (fun _ _ _ h => h) hO.2)
  intro fuel
  induction fuel with
  | zero =>
    intro listed a w hc hi; have hall := cnt_zero listed ops.size (by omega); refine ⟨?_, fin listed a w hall hi⟩
    cases h : Region.ready .any ops listed with
    | nil => rfl
    | cons i r =>
      have hir : i ∈ Region.ready .any ops listed := by rw [h]; exact List.mem_cons_self ..
      obtain ⟨hun, o, ho, _⟩ := mem_ready.1 hir; rw [hall i (Array.getElem?_eq_some_iff.1 ho).1] at hun
      cases hun
  | succ fuel ih =>
    intro listed a w hc hi; refine ⟨fun hr => fin listed a w (done listed a w hi hr) hi, fun i hir => ?_⟩; refine step listed a w hi i hir _ (fun a' w' hi' => ih _ a' w' ?_ hi'); obtain ⟨hun, o, ho, _⟩ := mem_ready.1 hir; have hisz : i < ops.size := (Array.getElem?_eq_some_iff.1 ho).1; have := cnt_set listed i (by rw [hi.base.lsize]; exact hisz) hun ops.size; rw [if_pos hisz] at this; omega

/-- THE LAW -/
theorem wp_free2 {id : Nat} {w : World} (hm : P.follows .mixedOrders = true) (hw : wellB2 ops a0.tmps.size = true) (hI : I (fun _ => false) w.drew)
    (h : From2 P ops Q a0 I Gr ops.toList 0 []) : (Code.region id ops true).wp P Q a0 w := by
  obtain ⟨Us, h1, h2, h3, h4⟩ := From2.collect ops.toList 0 [] rfl h; refine wp_region_any hm (any_of_inv2 (Ts := Us) hw (by simpa using h1) h2 (fun k o T ho hT => by simpa using h3 k o T (by simpa using ho) hT) (by simpa using h4) _ _ _ _ ?_ ?_)
  · have : ∀ n l, cnt l n ≤ n := by
      intro n
      induction n with
      | zero => intro l; simp [cnt]
      | succ n ih => intro l; have := ih l; simp only [cnt]; split <;> omega
    exact this _ _
  · refine ⟨⟨by simp, trivial, rfl, rfl, fun j o T ho _ hl => ?_, fun _ _ => rfl, fun j o ho hl => ?_⟩, ?_⟩
    · have hj : j < ops.size := (Array.getElem?_eq_some_iff.1 ho).1; rw [Array.getD_eq_getD_getElem?] at hl; simp [hj] at hl
    · have hj : j < ops.size := (Array.getElem?_eq_some_iff.1 ho).1; rw [Array.getD_eq_getD_getElem?] at hl; simp [hj] at hl
    · have e : (fun j => (Array.replicate ops.size false).getD j false) = fun _ => false := by
        funext j
        rw [Array.getD_eq_getD_getElem?, Array.getElem?_replicate]
        split <;> rfl
      show I (fun j => (Array.replicate ops.size false).getD j false) w.drew
      rw [e]; exact hI

/-- the operations, one behind the other; what they give stands in a list, the last one first -/
def Seq2 (P : Program) (ops : Array Oper) (Q : Exit → Act → World → Prop) (a0 : Act) (I : Done → World → Prop) (Gr : World → World → Prop) (rest : List Oper) (Rs : List Fact) : Prop :=
  From2 P ops Q a0 I Gr rest Rs.length Rs.reverse
theorem Seq2.done {Rs : List Fact} (hl : Rs.length = ops.toList.length) (h : ∀ w L, I L w → (∀ j, j < ops.size → L j = true) → All Rs.reverse (fun vs => Q .normal (putL ops.toList vs a0) w) w) : Seq2 P ops Q a0 I Gr [] Rs := by
  intro v w L hI hL hT; rw [putAll_eq, ← hl, ← List.length_reverse]; exact All.elim Rs.reverse _ w v 0 (h w L hI hL) (fun j T hj => by rw [Nat.zero_add]; exact hT j T hj)
theorem wp_seq2 {id : Nat} {w : World} (hm : P.follows .mixedOrders = true) (hw : wellB2 ops a0.tmps.size = true) (hI : I (fun _ => false) w.drew)
    (h : Seq2 P ops Q a0 I Gr ops.toList []) : (Code.region id ops true).wp P Q a0 w := wp_free2 hm hw hI h

variable {o : Oper} {rest : List Oper} {Rs : List Fact}
theorem Seq2.val (X : Value) (hg : ∀ w, Gr w w) (hs : ∀ L w, I L w → I (upd L Rs.length) w) (h : ∀ a w L, I L w → Pre2 ops Rs.reverse a0 a w Rs.length o L → Region.wanted o (yielded ops a.tmps) = true ∧ (execOp a.eval o).run P w = .ok (.value X) w)
    (hr : Seq2 P ops Q a0 I Gr rest (eqF X :: Rs)) : Seq2 P ops Q a0 I Gr (o :: rest) Rs := by
  refine ⟨eqF X, fun _ _ _ h _ => h, fun a w L hI hp => ?_, by simpa [Seq2] using hr⟩; obtain ⟨h1, h2⟩ := h a w L hI hp; rw [if_pos h1]; simp only [Oper.wp, h2, Oper.upon]; exact ⟨X, rfl, rfl, hg w, hs L w hI⟩
theorem Seq2.pass (hs : ∀ L w, I L w → I (upd L Rs.length) w) (h : ∀ a w L, I L w → Pre2 ops Rs.reverse a0 a w Rs.length o L → Region.wanted o (yielded ops a.tmps) = false)
    (hr : Seq2 P ops Q a0 I Gr rest (eqF undef :: Rs)) : Seq2 P ops Q a0 I Gr (o :: rest) Rs := by
  refine ⟨eqF undef, fun _ _ _ h _ => h, fun a w L hI hp => ?_, by simpa [Seq2] using hr⟩; rw [if_neg (by rw [h a w L hI hp]; exact Bool.false_ne_true)]; exact ⟨rfl, hs L w hI⟩
theorem Seq2.op (T : Fact) (hm : ∀ v w w', T v w → Gr w w' → T v w')
    (h : ∀ a w L, I L w → Pre2 ops Rs.reverse a0 a w Rs.length o L → Region.wanted o (yielded ops a.tmps) = true ∧ ∃ v w', (execOp a.eval o).run P w = .ok (.value v) w' ∧ T v w' ∧ Gr w w' ∧ I (upd L Rs.length) w')
    (hr : Seq2 P ops Q a0 I Gr rest (T :: Rs)) : Seq2 P ops Q a0 I Gr (o :: rest) Rs := by
  refine ⟨T, hm, fun a w L hI hp => ?_, by simpa [Seq2] using hr⟩; obtain ⟨h1, v, w', h2, h3⟩ := h a w L hI hp; rw [if_pos h1]; simp only [Oper.wp, h2, Oper.upon]; exact ⟨v, rfl, h3⟩
/-- a store -/
theorem Seq2.skip (hd : o.dst = none) (T : World → Prop) (hm : ∀ w w', T w → Gr w w' → T w')
    (h : ∀ a w L, I L w → Pre2 ops Rs.reverse a0 a w Rs.length o L → Region.wanted o (yielded ops a.tmps) = true ∧ ∃ w', (execOp a.eval o).run P w = .ok .skip w' ∧ T w' ∧ Gr w w' ∧ I (upd L Rs.length) w')
    (hr : Seq2 P ops Q a0 I Gr rest ((fun _ w => T w) :: Rs)) : Seq2 P ops Q a0 I Gr (o :: rest) Rs := by
  refine ⟨fun _ w => T w, fun _ => hm, fun a w L hI hp => ?_, by simpa [Seq2] using hr⟩; obtain ⟨h1, w', h2, h3⟩ := h a w L hI hp; rw [if_pos h1]; simp only [Oper.wp, h2, Oper.upon]; exact ⟨undef, by rw [hd], h3⟩
theorem Seq2.call (T : Fact) (hm : ∀ v w w', T v w → Gr w w' → T v w')
    (h : ∀ a w L, I L w → Pre2 ops Rs.reverse a0 a w Rs.length o L → Region.wanted o (yielded ops a.tmps) = true ∧ ∃ f args, (execOp a.eval o).run P w = .ok (.enter f args) w ∧ Calls P f args w fun e w' => ∃ v, e = .returned v ∧ T v w' ∧ Gr w w' ∧ I (upd L Rs.length) w')
    (hr : Seq2 P ops Q a0 I Gr rest (T :: Rs)) : Seq2 P ops Q a0 I Gr (o :: rest) Rs := by
  refine ⟨T, hm, fun a w L hI hp => ?_, by simpa [Seq2] using hr⟩; obtain ⟨h1, f, args, h2, h3⟩ := h a w L hI hp; rw [if_pos h1]; simp only [Oper.wp, h2, Oper.upon]; refine h3.mono fun e w' ⟨v, he, hT, hg, hI'⟩ => ?_
  subst he; exact ⟨v, rfl, hT, hg, hI'⟩
end
end Go.Proofs.Ytcnlgcmooegfkaa.Free
