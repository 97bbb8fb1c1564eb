/-
  THE SET OF MARKS: the walk of seen.From.
-/
import Derived.Test.YtcnlgcmooegfkaaSnapGap
import Derived.Test.YtcnlgcmooegfkaaSnapRt
import Derived.Test.YtcnlgcmooegfkaaLast
import Derived.Test.YtcnlgcmooegfkaaLit
import Derived.IntWalk
namespace Go.Proofs.Ytcnlgcmooegfkaa
open Go.RowKit Mg Sn

/-- why marks are no set's -/
def fromE (l : List Mk) : Int := if marksB none l = false then 2 else if 256 < gaps l then 6 else 0
theorem gaps_append (a b : List Mk) : gaps (a ++ b) = gaps a + gaps b := by simp [gaps]
theorem gaps_take (l : List Mk) (k : Nat) : gaps (l.take k) ≤ gaps l := by
  have := gaps_append (l.take k) (l.drop k); rw [List.take_append_drop] at this; omega
/-- the rows of the marks that have come -/
def RowsOf (w : World) (B : Nat) (kv : List (Value × Value)) (l : List Mk) : Prop :=
  kv.length = l.length ∧ ∀ (j : Nat) (x : Value × Value) (m : Mk), kv[j]? = some x → l[j]? = some m → ∃ r A c, x = (prv m.o m.e, .pointer (some ⟨r, 0, none⟩)) ∧ B ≤ r ∧ r < w.heap.size ∧ w.cell? ⟨r, 1, none⟩ = some (.slice A m.m.length c)
theorem RowsOf.keep {w w' : World} {B : Nat} {kv : List (Value × Value)} {l : List Mk} (h : RowsOf w B kv l) (hs : w.heap.size ≤ w'.heap.size) (hk : ∀ k, B ≤ k → k < w.heap.size → w'.cell? ⟨k, 1, none⟩ = w.cell? ⟨k, 1, none⟩) : RowsOf w' B kv l :=
  ⟨h.1, fun j x m hx hm => by
    obtain ⟨r, A, c, e, hB, hr, hc⟩ := h.2 j x m hx hm; exact ⟨r, A, c, e, hB, Nat.lt_of_lt_of_le hr hs, (hk r hB hr).trans hc⟩⟩
theorem RowsOf.snoc {w : World} {B : Nat} {kv : List (Value × Value)} {l : List Mk} {m : Mk} {r : Nat} {A : Option Addr} {c : Nat} (h : RowsOf w B kv l) (hB : B ≤ r) (hr : r < w.heap.size) (hc : w.cell? ⟨r, 1, none⟩ = some (.slice A m.m.length c)) : RowsOf w B (kv ++ [(prv m.o m.e, .pointer (some ⟨r, 0, none⟩))]) (l ++ [m]) := by
  refine ⟨by simp [h.1], fun j x y hx hy => ?_⟩
  rcases Nat.lt_trichotomy j l.length with hj | hj | hj
  · rw [List.getElem?_append_left (by rw [h.1]; exact hj)] at hx; rw [List.getElem?_append_left hj] at hy; exact h.2 j x y hx hy
  · subst hj; rw [← h.1, List.getElem?_append_right (Nat.le_refl _), Nat.sub_self] at hx; rw [List.getElem?_append_right (Nat.le_refl _), Nat.sub_self] at hy; simp at hx hy; subst hx hy; exact ⟨r, A, c, rfl, hB, hr, hc⟩
  · rw [List.getElem?_append_right (by omega), List.getElem?_eq_none (by simp; omega)] at hy
    cases hy
/-- all that have come lie ahead of the last one -/
def Srt (l : List Mk) : Prop := ∀ p, l.getLast? = some p → ∀ x ∈ l, x = p ∨ behind x p = true
theorem behind_trans {a b c : Mk} (h1 : behind a b = true) (h2 : behind b c = true) : behind a c = true := by
  simp only [behind, decide_eq_true_eq] at *; omega
theorem Srt.snoc {l : List Mk} {m : Mk} (h : Srt l) (hb : ∀ p, l.getLast? = some p → behind p m = true) : Srt (l ++ [m]) := by
  intro p hp x hx; rw [List.getLast?_append, List.getLast?_singleton] at hp; simp at hp; subst hp; rw [List.mem_append] at hx
  rcases hx with hx | hx
  · right
    obtain ⟨q, hq⟩ : ∃ q, l.getLast? = some q := by
      cases h' : l.getLast? with
      | none => rw [List.getLast?_eq_none_iff] at h'; subst h'; cases hx
      | some q => exact ⟨q, rfl⟩
    rcases h q hq x hx with rfl | h2
    · exact hb _ hq
    · exact behind_trans h2 (hb q hq)
  · exact .inl (by simpa using hx)
theorem Srt.ne {l : List Mk} {m : Mk} (h : Srt l) (hb : ∀ p, l.getLast? = some p → behind p m = true) : ∀ x ∈ l, ¬ (m.o = x.o ∧ m.e = x.e) := by
  intro x hx; obtain ⟨q, hq⟩ : ∃ q, l.getLast? = some q := by
    cases h' : l.getLast? with
    | none => rw [List.getLast?_eq_none_iff] at h'; subst h'; cases hx
    | some q => exact ⟨q, rfl⟩
  have h3 : behind x m = true := by
    rcases h q hq x hx with rfl | h2
    · exact hb _ hq
    · exact behind_trans h2 (hb q hq)
  simp only [behind, decide_eq_true_eq] at h3; omega

theorem elemI : ElemOf Try.prog 56 3 (.int .i64 0) 1 8 := ⟨Try.underlying56, by kernel_rfl, rfl, by decide, by decide⟩
theorem src_ints {w : World} {B : Nat} {A : Option Addr} {n c : Nat} {l : List Int} (h : RdE EInt 1 w B A n c l) : Src w A n 1 (is64 l) :=
  ⟨by simp [is64, h.len], fun hn => by
    obtain ⟨b, off, e, _, _, hc⟩ := h.at_ hn; refine ⟨_, e, fun j u hu => ?_⟩; simp only [is64, List.getElem?_map, Option.map_eq_some_iff] at hu; obtain ⟨x, hx, rfl⟩ := hu; obtain ⟨cs, h1, _, h3⟩ := hc j x hx; unfold EInt at h1; subst h1; have := h3 0 _ rfl; rw [add_none]
    simpa using this, fun u hu => by
    simp only [is64, List.mem_map] at hu; obtain ⟨x, _, rfl⟩ := hu; rfl⟩
theorem exec_app {P : Program} {w w' : World} {o : Oper} {a : Act} {t : TypeId} {v v' : Value} {A : Option Addr} {m c : Nat} (s x : Operand) (ho : o.op = .call { callee := .builtin .append, args := #[s, x], argTypes := #[t, t] }) (hv : a.eval s = v) (hx : a.eval x = .slice A m c)
    (hr : (Builtin.append_ #[t, t] o.type #[v, .slice A m c]).run P w = .ok v' w') : (execOp a.eval o).run P w = .ok (.value v') w' := by
  unfold execOp; simp only [ho, resolve, invoke, builtin, Sem.run_bind, Sem.run_pure, Result.andThen_ok, List.map_toArray, List.map_cons, List.map_nil, hv, hx, hr]
/-- numbers, copied behind an empty literal -/
theorem app_ints (w : World) {p B : Nat} (hp : w.heap[p]? = some (.cells #[] 3 (0, 0))) {A : Option Addr} {n c : Nat} {l : List Int} (h : RdE EInt 1 w B A n c l) (hn : n ≤ 1000000000000) (ty : TypeId) :
    ∃ A' c' w', (Builtin.append_ #[56, 56] ty #[.slice (some ⟨p, 0, none⟩) 0 0, .slice A n c]).run Try.prog w = .ok (.slice A' n c') w' ∧ Below w.heap.size w w' := by
  have hs := src_ints h; obtain ⟨A', c', w', h1, _, h3⟩ := run_appl (P := Try.prog) w elemI ty (B := 0) hp (Nat.zero_le _) c hs (by omega); exact ⟨A', c', w', h1, h3⟩

/-- 'm[k] = v' where its run is known -/
theorem wpList_mapRun {P : Program} {w w' : World} {ops : Array Oper} {rest : List Oper} {o : Oper} {a : Act} {Q : Exit → Act → World → Prop} {t : TypeId} {mv key val : Value} (hrun : (Instr.mapUpdate t mv key val).run P w = .ok () w')
    (hg : o.guard = none) (m x v : Operand) (hop : o.op = Op.mapUpdate t m x v) (hm : a.eval m = mv) (hx : a.eval x = key) (hv : a.eval v = val) (hK : wpList P ops Q rest (a.put o.dst undef) w') : wpList P ops Q (o :: rest) a w := by
  refine wpList_plain hg fun K' hK' => ?_
  unfold Oper.wp; simp [execOp, hop, hm, hx, hv, hrun, Result.andThen]; exact hK' _ _ hK

theorem moreB_len : ∀ {l : List Int} {last : Int}, moreB last l = true → last ≤ 65536 → (l.length : Int) ≤ 65536 - last
  | [], last, _, h => by simp; omega
  | x :: r, last, h, h0 => by
    simp only [moreB, Bool.and_eq_true, decide_eq_true_eq] at h; have := moreB_len h.2 (by omega); simp only [List.length_cons]; omega
theorem right_len {m : Mk} (h : rightB m = true) : m.m.length ≤ 65535 := by
  simp only [rightB, Bool.and_eq_true, decide_eq_true_eq] at h; have := moreB_len h.1.2 (by omega); omega
theorem marks_tail {p m : Mk} {r : List Mk} (h : marksB (some p) (m :: r) = true) : rightB m = true ∧ behind p m = true ∧ marksB (some m) r = true := by
  simp only [marksB, Bool.and_eq_true] at h; exact ⟨h.1.1, h.1.2, h.2⟩
theorem marks_count : ∀ {l : List Mk} {p : Mk}, rightB p = true → marksB (some p) l = true → (l.length : Int) + (p.o * 65536 + p.e) ≤ 4194304 ∧ gaps l ≤ 65535 * l.length
  | [], p, hp, _ => by
    simp only [rightB, Bool.and_eq_true, decide_eq_true_eq] at hp; simp [gaps]; omega
  | x :: r, p, hp, h => by
    obtain ⟨h1, h2, h3⟩ := marks_tail h; obtain ⟨h4, h5⟩ := marks_count h1 h3; have h6 := right_len h1; simp only [rightB, Bool.and_eq_true, decide_eq_true_eq] at hp h1; simp only [behind, decide_eq_true_eq] at h2; have e : gaps (x :: r) = x.m.length + gaps r := by simp [gaps]
    rw [e]; simp only [List.length_cons]; omega
/-- right marks have few gaps -/
theorem marks_gaps {l : List Mk} (h : marksB none l = true) : gaps l ≤ 1000000000000 := by
  cases l with
  | nil => simp [gaps]
  | cons x r =>
    simp only [marksB, Bool.and_eq_true] at h; obtain ⟨h4, h5⟩ := marks_count h.1 h.2; have h6 := right_len h.1; have h7 := h.1; simp only [rightB, Bool.and_eq_true, decide_eq_true_eq] at h7; have e : gaps (x :: r) = x.m.length + gaps r := by simp [gaps]
    rw [e]; omega
set_option maxRecDepth 100000 in
set_option maxHeartbeats 4000000 in
theorem sfrom_any (l : List Mk) (A : Option Addr) (n c B : Nat) (w : World) (hR : RdE EMk 4 w B A n c l) :
    Calls Try.prog 50 #[.int .i64 256, .slice A n c] w fun e w' => ∃ o, e = .returned (.tuple #[.pointer o, .int .i64 (fromE l)]) ∧ Below w.heap.size w w' := by
  obtain ⟨R, hRR⟩ : ∃ R, R = fromE l := ⟨_, rfl⟩; rw [← hRR]; have HRR := Lib.hid hRR; have HN := Lib.hid hR; have hbig := hR.big; clear hRR hR
  go_enter Try.func50, Try.ntmps50
  go_wp2_with fail
  refine (snew_any 256 (by omega) (by omega) _).mono ?_; rintro e w1 ⟨m, s, rfl, hm1, hs1, hm2, hs2, hb⟩; have HS := Lib.hid hs2; have HM0 : Hid (MapAt w1 m []) := hm2; have HB := Lib.hid hb; have hz1 := hb.size; have hsl := (Array.getElem?_eq_some_iff.1 hs2).1; have hml := (Array.getElem?_eq_some_iff.1 hm2).1; have hsm : s ≠ m := by
    rintro rfl; rw [hs2] at hm2; injection hm2 with hm2
    cases hm2
  clear hs2 hm2 hb
  go_wp2_with fail
  go_loopw [20] (fun i wr => ∃ k : Nat, i = .int .i64 k ∧ k ≤ n ∧ Hid (marksB none l = marksB (l.take k).getLast? (l.drop k) ∧ Srt (l.take k) ∧ wr.heap[s]? = w1.heap[s]? ∧ Below w.heap.size w wr ∧ w1.heap.size ≤ wr.heap.size ∧ ∃ kv, MapAt wr m kv ∧ RowsOf wr w1.heap.size kv (l.take k))) (fun i _ => n - (intOf i).toNat)
  case atStart => exact ⟨0, rfl, Nat.zero_le _, by simp, by intro p hp; simp at hp, rfl, HB.out, Nat.le_refl _, [], HM0.out, ⟨by simp, by simp⟩⟩
  case round =>
    obtain ⟨k, rfl, hk, hq, hsrt, hsb, hbw, hzw, kv, hmap, hrows⟩ := hrel; have HQ := Lib.hid hq; have HSRT := Lib.hid hsrt; have HSB := Lib.hid hsb; have HBW := Lib.hid hbw; have HMAP := Lib.hid hmap; have HROWS := Lib.hid hrows; clear hq hsrt hsb hbw hmap hrows
    by_cases hlt : k < n
    · obtain ⟨b, off, x, cs, rfl, hB, hbl, hx, hcs, hlen, hcell⟩ := (HN.out.below keeps_mk HBW.out).at' hlt; obtain ⟨Ax, cx, rfl, hmx⟩ := hcs; have c0 := hcell 0 _ rfl; have c1 := hcell 1 _ rfl; have c2 := hcell 2 _ rfl; have c3 := hcell 3 _ rfl; rw [Nat.add_zero] at c0; rw [marksB_drop hx] at HQ; have hkb : k < 281474976710656 := by omega
      have HX := Lib.hid hx; have HMX := Lib.hid hmx; clear hcell hlen hx hmx; obtain ⟨o, e, u, mm⟩ := x; simp only at c0 c1 c2 c3; obtain ⟨nm, hnm⟩ : ∃ nm, nm = mm.length := ⟨_, rfl⟩; rw [← hnm] at c3; have HNM := Lib.hid hnm; clear hnm
      go_wp2_with fail
      obtain ⟨W, hW⟩ : ∃ W, W = wr.alloc (.cells #[.int .i64 o, .int .i64 e, .int .i64 u, .slice Ax nm cx] 58) := ⟨_, rfl⟩; rw [← hW]; have hWs : W.heap.size = wr.heap.size + 1 := by rw [hW]; simp
      have hbW : wr.heap.size < W.heap.size := by omega
      have d0 : W.cell? ⟨wr.heap.size, 0, none⟩ = some (.int .i64 o) := by rw [hW]; exact World.cell?_alloc_mark wr _ _ _ 0
      have d1 : W.cell? ⟨wr.heap.size, 1, none⟩ = some (.int .i64 e) := by rw [hW]; exact World.cell?_alloc_mark wr _ _ _ 1
      have d2 : W.cell? ⟨wr.heap.size, 2, none⟩ = some (.int .i64 u) := by rw [hW]; exact World.cell?_alloc_mark wr _ _ _ 2
      have d3 : W.cell? ⟨wr.heap.size, 3, none⟩ = some (.slice Ax nm cx) := by rw [hW]; exact World.cell?_alloc_mark wr _ _ _ 3
      have HWW : Hid (Below wr.heap.size wr W) := by show Below _ _ _; rw [hW]; exact (Below.refl _ _).alloc (Nat.le_refl _) _
      have HMW : Hid (RdE EInt 1 W B Ax nm cx mm) := by show RdE _ _ _ _ _ _ _ _; rw [HNM.out]; exact HMX.out.below keeps_int HWW.out
      have hcr : ∀ W', Below W.heap.size W W' → Calls Try.prog 68 #[.agg #[.int .i64 o, .int .i64 e, .int .i64 u, .slice Ax nm cx]] W' fun en w' => en = .returned (.bool (rightB ⟨o, e, u, mm⟩)) ∧ Below W'.heap.size W' w' := fun W' h => by
        have := sright_any ⟨o, e, u, mm⟩ Ax cx B W' (by have := HMW.out.below keeps_int h; rw [HNM.out] at this; exact this); simp only at this; rw [← HNM.out] at this; exact this
      have hprev : (l.take k).getLast? = if k = 0 then none else l[k - 1]? := by
        have hl := HN.out.len
        by_cases h : k = 0
        · subst h; simp
        · rw [if_neg h, List.getLast?_eq_getElem?, List.length_take, Nat.min_eq_left (by omega), List.getElem?_take, if_pos (by omega)]
      rw [hprev] at HQ; have HPREV := Lib.hid hprev; clear hW hprev c0 c1 c2 c3
      by_cases hr : rightB ⟨o, e, u, mm⟩ = true
      · rw [hr] at hcr; have HCR := Lib.hid hcr; have HR1 := Lib.hid hr; clear hcr hr
        by_cases hk0 : k = 0
        · have hd : decide (0 < k) = false := by simp; omega
          have HK0 := Lib.hid hk0; clear hk0; refine Free.wp_seq (I := fun w' => Below W.heap.size W w') (Gr := fun w1 w2 => Below w1.heap.size w1 w2) (by kernel_rfl) (by kernel_rfl) (Below.refl _ _).drew ?_
          apply Free.sv; intro a w1 hI hp
          · have e9 := hp.sl 9; simp at e9; have k0 := (hI.cell (p := ⟨wr.heap.size, 0, none⟩) hbW).trans d0; have k1 := (hI.cell (p := ⟨wr.heap.size, 1, none⟩) hbW).trans d1; have k2 := (hI.cell (p := ⟨wr.heap.size, 2, none⟩) hbW).trans d2; have k3 := (hI.cell (p := ⟨wr.heap.size, 3, none⟩) hbW).trans d3; refine ⟨Free.wn, ?_⟩; clear hp; go_simp; rfl
          refine Free.Seq.call (T := Free.eqF (.bool true)) (fun _ _ _ h _ => h) (fun a w1 hI hp => ?_) ?_
          · have e25 := hp.b 0 0; refine ⟨Free.wn, 68, #[.agg #[.int .i64 o, .int .i64 e, .int .i64 u, .slice Ax nm cx]], ?_, ?_⟩
            · clear hp; go_simp
            · refine (HCR.out _ hI).mono ?_; rintro e w' ⟨rfl, hb⟩; exact ⟨_, rfl, rfl, hb, hI.trans (hb.mono hI.size)⟩
          apply Free.sv; intro a w1 hI hp
          · have e26 := hp.b 1 0; refine ⟨Free.wn, ?_⟩; clear hp; go_simp; rfl
          apply Free.sv; intro a w1 hI hp
          · have e27 := hp.b 2 0; refine ⟨Free.wn, ?_⟩; clear hp; go_simp; rfl
          apply Free.sv; intro a w1 hI hp
          · have e28 := hp.b 3 0; have e8 := hp.sl 8; simp at e8; refine ⟨hp.wt e28, ?_⟩; clear hp; go_simp; rfl
          apply Free.sv; intro a w1 hI hp
          · have e28 := hp.b 3 1; have e29 := hp.b 4 0; refine ⟨hp.wt e28, ?_⟩; clear hp; go_simp; rfl
          apply Free.sv; intro a w1 hI hp
          · have e28 := hp.b 3 2; have e30 := hp.b 5 0; refine ⟨hp.wt e28, ?_⟩; clear hp; go_simp; rfl
          refine Free.sp 6 0 ?_; refine Free.sp 6 1 ?_; refine Free.sp 6 2 ?_; refine Free.sp 6 3 ?_; refine Free.sp 6 4 ?_; refine Free.sp 6 5 ?_; refine Free.sp 6 6 ?_; refine Free.sp 6 7 ?_; refine Free.sp 6 8 ?_; refine Free.sp 6 9 ?_; refine Free.sp 6 10 ?_; refine Free.sp 6 11 ?_; refine Free.sp 6 12 ?_; refine Free.sp 6 13 ?_; refine Free.sp 6 14 ?_; refine Free.sp 6 15 ?_; refine Free.sp 6 16 ?_; refine Free.sp 6 17 ?_; refine Free.sp 6 18 ?_; refine Free.sp 6 19 ?_
          apply Free.sv; intro a w1 hI hp
          · have e28 := hp.b 3 23; have e31 := hp.b 6 20; have e51 := hp.b 26 0; refine ⟨hp.wt e28, ?_⟩; clear hp; go_simp; rfl
          apply Free.sv; intro a w1 hI hp
          · have e28 := hp.b 3 24; have e52 := hp.b 27 0; refine ⟨Free.wn, ?_⟩; clear hp; go_simp; rfl
          refine Free.Seq.done (by simp) (fun wz hIz => ?_); simp only [List.reverse_cons, List.reverse_nil, List.nil_append, List.cons_append, Free.All, Free.eqF, forall_eq]; have HIZ := Lib.hid hIz; clear hIz; simp only [Free.putL, Act.put, List.setIfInBounds_toArray, List.set_cons_zero, List.set_cons_succ]; have HBH : Hid (∀ p, (l.take k).getLast? = some p → behind p ⟨o, e, u, mm⟩ = true) := by
            intro p hp; rw [HPREV.out, if_pos HK0.out] at hp
            cases hp
          have HQ2 : Hid (marksB none l = marksB (some ⟨o, e, u, mm⟩) (l.drop (k + 1))) := by
            refine HQ.out.trans ?_; rw [HR1.out, if_pos HK0.out]; simp
          dsimp only [Exit.then]
          go_wp2_with fail
          have hzz := HIZ.out.size; have hsZ : s < wz.heap.size := by omega
          have hbZ : wr.heap.size < wz.heap.size := by omega
          have s1 : wz.cell? ⟨s, 1, none⟩ = some (.map (some m)) := by
            have : wz.heap[s]? = _ := (HIZ.out.block s (by omega)).trans ((HWW.out.block s (by omega)).trans (HSB.out.trans HS.out)); rw [cell_of_cells this]; rfl
          have z0 := (HIZ.out.cell (p := ⟨wr.heap.size, 0, none⟩) hbW).trans d0; have z1 := (HIZ.out.cell (p := ⟨wr.heap.size, 1, none⟩) hbW).trans d1; have z2 := (HIZ.out.cell (p := ⟨wr.heap.size, 2, none⟩) hbW).trans d2; have z3 := (HIZ.out.cell (p := ⟨wr.heap.size, 3, none⟩) hbW).trans d3; have HMZ := Lib.hid (HMW.out.below keeps_int HIZ.out); have HBZ := Lib.hid (HWW.out.trans (HIZ.out.mono (by omega))); have hnb : nm ≤ 1000000000000 := by
            have h1 := right_len HR1.out; have h3 := HNM.out; simp only at h1; omega
          refine Free.wp_last (I := fun w' => Below wz.heap.size wz w') (Gr := fun w1 w2 => Below w1.heap.size w1 w2) (by kernel_rfl) (by simp) (by kernel_rfl) (by kernel_rfl) (Below.refl _ _).drew ?_
          dsimp only [List.dropLast, List.getLast]
          apply Free.sv; intro a w1 hI hp
          · have e6 := hp.sl 6; simp at e6; refine ⟨Free.wn, ?_⟩; clear hp; go_simp; rfl
          apply Free.sv; intro a w1 hI hp
          · have e54 := hp.b 0 0; refine ⟨Free.wn, ?_⟩; clear hp; go_simp; rfl
          apply Free.sv; intro a w1 hI hp
          · have e55 := hp.b 1 0; refine ⟨Free.wn, ?_⟩; clear hp; go_simp; rfl
          apply Free.sv; intro a w1 hI hp
          · have e56 := hp.b 2 0; have k1 := (hI.cell (p := ⟨s, 1, none⟩) hsZ).trans s1; refine ⟨Free.wn, ?_⟩; clear hp; go_simp; rfl
          apply Free.sv; intro a w1 hI hp
          · have e9 := hp.sl 9; simp at e9; refine ⟨Free.wn, ?_⟩; clear hp; go_simp; rfl
          apply Free.sv; intro a w1 hI hp
          · have e58 := hp.b 4 0; have k0 := (hI.cell (p := ⟨wr.heap.size, 0, none⟩) hbZ).trans z0; refine ⟨Free.wn, ?_⟩; clear hp; go_simp; rfl
          apply Free.sv; intro a w1 hI hp
          · have e9 := hp.sl 9; simp at e9; refine ⟨Free.wn, ?_⟩; clear hp; go_simp; rfl
          apply Free.sv; intro a w1 hI hp
          · have e60 := hp.b 6 0; have k1 := (hI.cell (p := ⟨wr.heap.size, 1, none⟩) hbZ).trans z1; refine ⟨Free.wn, ?_⟩; clear hp; go_simp; rfl
          apply Free.sv; intro a w1 hI hp
          · have e59 := hp.b 5 2; have e61 := hp.b 7 0; refine ⟨Free.wn, ?_⟩; clear hp; go_simp; rfl
          apply Free.sv; intro a w1 hI hp
          · have e9 := hp.sl 9; simp at e9; refine ⟨Free.wn, ?_⟩; clear hp; go_simp; rfl
          apply Free.sv; intro a w1 hI hp
          · have e63 := hp.b 9 0; have k2 := (hI.cell (p := ⟨wr.heap.size, 2, none⟩) hbZ).trans z2; refine ⟨Free.wn, ?_⟩; clear hp; go_simp; rfl
          refine Free.Seq.op (T := fun v w' => ∃ p, v = .slice (some ⟨p, 0, none⟩) 0 0 ∧ wz.heap.size ≤ p ∧ w'.heap[p]? = some (.cells #[] 3 (0, 0))) (by rintro v x y ⟨p, rfl, h1, h2⟩ hg; exact ⟨p, rfl, h1, (hg.block p (Array.getElem?_eq_some_iff.1 h2).1).trans h2⟩) (fun a w1 hI hp => ?_) ?_
          · skip
            refine ⟨Free.wn, (.slice (some ⟨w1.heap.size, 0, none⟩) 0 0), (w1.alloc (.cells #[] 3)), ?_, ⟨_, rfl, hI.size, heap_alloc_new w1 _⟩, (Below.refl _ _).alloc (Nat.le_refl _) _, hI.alloc hI.size _⟩; clear hp; go_simp
          apply Free.sv; intro a w1 hI hp
          · have e9 := hp.sl 9; simp at e9; refine ⟨Free.wn, ?_⟩; clear hp; go_simp; rfl
          apply Free.sv; intro a w1 hI hp
          · have e66 := hp.b 12 0; have k3 := (hI.cell (p := ⟨wr.heap.size, 3, none⟩) hbZ).trans z3; refine ⟨Free.wn, ?_⟩; clear hp; go_simp; rfl
          refine Free.Seq.op (T := fun v w' => ∃ A' c', v = .slice A' nm c') (fun _ _ _ h _ => h) (fun a w1 hI hp => ?_) ?_
          · have e67 := hp.b 13 0; obtain ⟨p, e65, hp1, hp2⟩ := hp.back 11 2 rfl rfl rfl rfl rfl; obtain ⟨A', c', w', hr, hbz⟩ := app_ints w1 hp2 (HMZ.out.below keeps_int hI) hnb 56; exact ⟨Free.wn, .slice A' nm c', w', exec_app (.tmp 65) (.tmp 67) rfl (by simpa [Act.eval] using e65) (by simpa [Act.eval] using e67) hr, ⟨A', c', rfl⟩, hbz, hI.trans (hbz.mono hI.size)⟩
          refine Free.Seq.op (T := fun v w' => ∃ A' c', v = .agg #[.int .i64 u, .slice A' nm c']) (fun _ _ _ h _ => h) (fun a w1 hI hp => ?_) ?_
          · have e64 := hp.b 10 4; obtain ⟨A', c', e68⟩ := hp.back 14 0 rfl rfl rfl rfl rfl; refine ⟨Free.wn, .agg #[.int .i64 u, .slice A' nm c'], w1, ?_, ⟨A', c', rfl⟩, Below.refl _ _, hI⟩; clear hp; go_simp
          refine Free.Seq.op (T := fun v w' => ∃ r A' c', v = .pointer (some ⟨r, 0, none⟩) ∧ wz.heap.size ≤ r ∧ r < w'.heap.size ∧ w'.cell? ⟨r, 1, none⟩ = some (.slice A' nm c')) (by rintro v x y ⟨r, A', c', rfl, h0, h1, h2⟩ hg; exact ⟨r, A', c', rfl, h0, Nat.lt_of_lt_of_le h1 hg.size, (hg.cell (p := ⟨r, 1, none⟩) h1).trans h2⟩) (fun a w1 hI hp => ?_) ?_
          · skip
            obtain ⟨A', c', e69⟩ := hp.back 15 0 rfl rfl rfl rfl rfl; refine ⟨Free.wn, .pointer (some ⟨w1.heap.size, 0, none⟩), w1.alloc (.cells #[.int .i64 u, .slice A' nm c'] 127), ?_, ⟨_, A', c', rfl, hI.size, by simp, World.cell?_alloc_mark w1 _ _ _ 1⟩, (Below.refl _ _).alloc (Nat.le_refl _) _, hI.alloc hI.size _⟩; clear hp; go_simp
          refine Free.Seq.done (by simp) (fun wz hIz => ?_); simp only [List.reverse_cons, List.reverse_nil, List.nil_append, List.cons_append, Free.All, Free.eqF, forall_eq]; rintro _ ⟨p5, rfl, -, -⟩ _ ⟨A6, c6, rfl⟩ _ ⟨A7, c7, rfl⟩ _ ⟨r8, A8, c8, rfl, hr1, hr2, hr3⟩; simp only [Free.putL, Act.put, List.setIfInBounds_toArray, List.set_cons_zero, List.set_cons_succ]; refine ⟨trivial, ?_⟩; have hz9 := hIz.size; have hB9 : Below wr.heap.size wr wz := HBZ.out.trans (hIz.mono (by omega)); have hM9 : MapAt wz m kv := HMAP.out.keep (hB9.block m HMAP.out.lt); have hne := HSRT.out.ne (m := ⟨o, e, u, mm⟩) HBH.out; have hup := update_new (P := Try.prog) (M := 128) (T := 131) (E := 125) (k := prv o e) Try.underlying128 Try.underlying131 (fun a b => by cases a <;> cases b <;> rfl) hM9 (check_pr false o e _) (fun x hx => by
            obtain ⟨j, hj⟩ := List.getElem?_of_mem hx; have hjl : j < (l.take k).length := by rw [← HROWS.out.1]; exact (List.getElem?_eq_some_iff.1 hj).1
            obtain ⟨r, A', c', rfl, _⟩ := HROWS.out.2 j x _ hj (List.getElem?_eq_getElem hjl); rw [eq_pr]; have := hne _ (List.getElem_mem hjl)
            simpa using this) (.pointer (some ⟨r8, 0, none⟩))
          have hM10 := moreMap_at hM9 (prv o e) (.pointer (some ⟨r8, 0, none⟩)); obtain ⟨W', hW'⟩ : ∃ W', W' = moreMap wz m kv (prv o e) (.pointer (some ⟨r8, 0, none⟩)) := ⟨_, rfl⟩; rw [← hW'] at hup hM10; have hs' : W'.heap.size = wz.heap.size := by rw [hW']; exact moreMap_size _ _
          have hot : ∀ j, j ≠ m → W'.heap[j]? = wz.heap[j]? := fun j hj => by rw [hW']; exact moreMap_other _ _ hj
          have hb11 : Below w.heap.size wz W' := ⟨by rw [hW']; rfl, by rw [hW']; rfl, by rw [hW']; rfl, by omega, fun j hj => hot j (by omega)⟩; have HB11 : Hid (Below w.heap.size w W') := HBW.out.trans ((hB9.mono (by have := HBW.out.size; omega)).trans hb11); have hr4 : W'.cell? ⟨r8, 1, none⟩ = some (.slice A8 nm c8) := (World.cell?_of_block (w := wz) (a := ⟨r8, 1, none⟩) (hot r8 (by have := HMAP.out.lt; omega))).trans hr3; have htk : l.take (k + 1) = l.take k ++ [⟨o, e, u, mm⟩] := by rw [List.take_add_one, HX.out]; rfl
          have HRO : Hid (RowsOf W' w1.heap.size (kv ++ [(prv o e, .pointer (some ⟨r8, 0, none⟩))]) (l.take (k + 1))) := by
            show RowsOf _ _ _ _
            rw [htk]; refine RowsOf.snoc (m := ⟨o, e, u, mm⟩) (HROWS.out.keep (by omega) (fun j h1 h2 => World.cell?_of_block (w := wr) (a := ⟨j, 1, none⟩) ((hot j (by omega)).trans (hB9.block j h2)))) (by omega) (by omega) (by rw [hr4, HNM.out])
          have HSR : Hid (Srt (l.take (k + 1))) := by
            show Srt _
            rw [htk]; exact HSRT.out.snoc HBH.out
          have HSB2 : Hid (W'.heap[s]? = w1.heap[s]?) := (hot s (by omega)).trans ((hB9.block s (by omega)).trans HSB.out); have HM11 := Lib.hid hM10; have HQ3 : Hid (marksB none l = marksB (l.take (k + 1)).getLast? (l.drop (k + 1))) := by
            show _ = _
            rw [htk, List.getLast?_append, List.getLast?_singleton]; exact HQ2.out
          have hwz9 : w1.heap.size ≤ W'.heap.size := by have := HBW.out.size; omega
          clear hot hM9 hne hM10 hb11 hr4 htk hB9 hIz hr1 hr2 hr3; refine wpList_mapRun hup rfl _ _ _ rfl rfl rfl rfl ?_; clear hup hW'
          go_wp2_with fail
          exact ⟨⟨k + 1, by simp, by omega, HQ3.out, HSR.out, HSB2.out, HB11.out, hwz9, _, HM11.out, HRO.out⟩, by simp only [intOf]; omega⟩
        · have hkp : k - 1 < n := by omega
          obtain ⟨b', off', x', cs', hbo, _, hbl', hx', hcs', _, hcell'⟩ := (HN.out.below keeps_mk HBW.out).at' hkp; obtain ⟨Ap, cp, rfl, _⟩ := hcs'; have f0 := hcell' 0 _ rfl; have f1 := hcell' 1 _ rfl; rw [Nat.add_zero] at f0; injection hbo with hbo
          injection hbo with hb1 hb2
          subst hb1 hb2; have HXP := Lib.hid hx'; obtain ⟨po, pe, pu, pm⟩ := x'; simp only at f0 f1; have f0 := (HWW.out.cell (p := ⟨b, off + (k - 1) * 4, none⟩) hbl).trans f0; have f1 := (HWW.out.cell (p := ⟨b, off + (k - 1) * 4 + 1, none⟩) hbl).trans f1; have hbp : b < W.heap.size := by omega
          have hd : decide (0 < k) = true := by simp; omega
          have hsub : IntKind.i64.wrap ((k : Int) - 1) = ((k - 1 : Nat) : Int) := by rw [IntWalk.i64_in _ (by omega)]; omega
          have hsub2 : (0 : Int) ≤ ((k - 1 : Nat) : Int) := by omega
          have hsub3 : ((k - 1 : Nat) : Int) < (n : Int) := by omega
          clear hcell' hx'
          by_cases hbh : cmp2 po pe o e < 0
          · have hd2 : decide (0 ≤ cmp2 po pe o e) = false := by simp; omega
            refine Free.wp_seq (I := fun w' => Below W.heap.size W w') (Gr := fun w1 w2 => Below w1.heap.size w1 w2) (by kernel_rfl) (by kernel_rfl) (Below.refl _ _).drew ?_
            apply Free.sv; intro a w1 hI hp
            · have e9 := hp.sl 9; simp at e9; have k0 := (hI.cell (p := ⟨wr.heap.size, 0, none⟩) hbW).trans d0; have k1 := (hI.cell (p := ⟨wr.heap.size, 1, none⟩) hbW).trans d1; have k2 := (hI.cell (p := ⟨wr.heap.size, 2, none⟩) hbW).trans d2; have k3 := (hI.cell (p := ⟨wr.heap.size, 3, none⟩) hbW).trans d3; refine ⟨Free.wn, ?_⟩; clear hp; go_simp; rfl
            refine Free.Seq.call (T := Free.eqF (.bool true)) (fun _ _ _ h _ => h) (fun a w1 hI hp => ?_) ?_
            · have e25 := hp.b 0 0; refine ⟨Free.wn, 68, #[.agg #[.int .i64 o, .int .i64 e, .int .i64 u, .slice Ax nm cx]], ?_, ?_⟩
              · clear hp; go_simp
              · refine (HCR.out _ hI).mono ?_; rintro e w' ⟨rfl, hb⟩; exact ⟨_, rfl, rfl, hb, hI.trans (hb.mono hI.size)⟩
            apply Free.sv; intro a w1 hI hp
            · have e26 := hp.b 1 0; refine ⟨Free.wn, ?_⟩; clear hp; go_simp; rfl
            apply Free.sv; intro a w1 hI hp
            · have e27 := hp.b 2 0; refine ⟨Free.wn, ?_⟩; clear hp; go_simp; rfl
            apply Free.sv; intro a w1 hI hp
            · have e28 := hp.b 3 0; have e8 := hp.sl 8; simp at e8; refine ⟨hp.wt e28, ?_⟩; clear hp; go_simp; rfl
            apply Free.sv; intro a w1 hI hp
            · have e28 := hp.b 3 1; have e29 := hp.b 4 0; refine ⟨hp.wt e28, ?_⟩; clear hp; go_simp; rfl
            apply Free.sv; intro a w1 hI hp
            · have e28 := hp.b 3 2; have e30 := hp.b 5 0; refine ⟨hp.wt e28, ?_⟩; clear hp; go_simp; rfl
            apply Free.sv; intro a w1 hI hp
            · have e31 := hp.b 6 0; have e1 := hp.sl 1; simp at e1; refine ⟨hp.wt e31, ?_⟩; clear hp; go_simp; rfl
            apply Free.sv; intro a w1 hI hp
            · have e31 := hp.b 6 1; have e8 := hp.sl 8; simp at e8; refine ⟨hp.wt e31, ?_⟩; clear hp; go_simp; rfl
            apply Free.sv; intro a w1 hI hp
            · have e31 := hp.b 6 2; have e33 := hp.b 8 0; refine ⟨hp.wt e31, ?_⟩; clear hp; go_simp; rfl
            apply Free.sv; intro a w1 hI hp
            · have e31 := hp.b 6 3; have e32 := hp.b 7 2; have e34 := hp.b 9 0; refine ⟨hp.wt e31, ?_⟩; clear hp; go_simp; rfl
            apply Free.sv; intro a w1 hI hp
            · have e31 := hp.b 6 4; have e35 := hp.b 10 0; refine ⟨hp.wt e31, ?_⟩; clear hp; go_simp; rfl
            apply Free.sv; intro a w1 hI hp
            · have e31 := hp.b 6 5; have e36 := hp.b 11 0; have k0 := (hI.cell (p := ⟨b, off + (k - 1) * 4, none⟩) hbp).trans f0; refine ⟨hp.wt e31, ?_⟩; clear hp; go_simp; rfl
            apply Free.sv; intro a w1 hI hp
            · have e31 := hp.b 6 6; have e1 := hp.sl 1; simp at e1; refine ⟨hp.wt e31, ?_⟩; clear hp; go_simp; rfl
            apply Free.sv; intro a w1 hI hp
            · have e31 := hp.b 6 7; have e8 := hp.sl 8; simp at e8; refine ⟨hp.wt e31, ?_⟩; clear hp; go_simp; rfl
            apply Free.sv; intro a w1 hI hp
            · have e31 := hp.b 6 8; have e39 := hp.b 14 0; refine ⟨hp.wt e31, ?_⟩; clear hp; go_simp; rfl
            apply Free.sv; intro a w1 hI hp
            · have e31 := hp.b 6 9; have e38 := hp.b 13 2; have e40 := hp.b 15 0; refine ⟨hp.wt e31, ?_⟩; clear hp; go_simp; rfl
            apply Free.sv; intro a w1 hI hp
            · have e31 := hp.b 6 10; have e41 := hp.b 16 0; refine ⟨hp.wt e31, ?_⟩; clear hp; go_simp; rfl
            apply Free.sv; intro a w1 hI hp
            · have e31 := hp.b 6 11; have e42 := hp.b 17 0; have k1 := (hI.cell (p := ⟨b, off + (k - 1) * 4 + 1, none⟩) hbp).trans f1; refine ⟨hp.wt e31, ?_⟩; clear hp; go_simp; rfl
            refine Free.Seq.op (T := fun v w' => ∃ p, v = .slice (some ⟨p, 0, none⟩) 2 2 ∧ p < w'.heap.size ∧ w'.cell? ⟨p, 0, none⟩ = some (.int .i64 po) ∧ w'.cell? ⟨p, 1, none⟩ = some (.int .i64 pe)) (by rintro v x y ⟨p, rfl, h1, h2, h3⟩ hg; exact ⟨p, rfl, Nat.lt_of_lt_of_le h1 hg.size, (hg.cell (p := ⟨p, 0, none⟩) h1).trans h2, (hg.cell (p := ⟨p, 1, none⟩) h1).trans h3⟩) (fun a w1 hI hp => ?_) ?_
            · have e31 := hp.b 6 12; have e37 := hp.b 12 6; have e43 := hp.b 18 0; refine ⟨hp.wt e31, (.slice (some ⟨w1.heap.size, 0, none⟩) 2 2), (w1.alloc (.cells #[.int .i64 po, .int .i64 pe] 3)), ?_, ⟨_, rfl, by simp, World.cell?_alloc_mark w1 _ _ _ 0, World.cell?_alloc_mark w1 _ _ _ 1⟩, (Below.refl _ _).alloc (Nat.le_refl _) _, hI.alloc hI.size _⟩; clear hp; go_simp
            apply Free.sv; intro a w1 hI hp
            · have e31 := hp.b 6 13; have e9 := hp.sl 9; simp at e9; refine ⟨hp.wt e31, ?_⟩; clear hp; go_simp; rfl
            apply Free.sv; intro a w1 hI hp
            · have e31 := hp.b 6 14; have e45 := hp.b 20 0; have k0 := (hI.cell (p := ⟨wr.heap.size, 0, none⟩) hbW).trans d0; refine ⟨hp.wt e31, ?_⟩; clear hp; go_simp; rfl
            apply Free.sv; intro a w1 hI hp
            · have e31 := hp.b 6 15; have e9 := hp.sl 9; simp at e9; refine ⟨hp.wt e31, ?_⟩; clear hp; go_simp; rfl
            apply Free.sv; intro a w1 hI hp
            · have e31 := hp.b 6 16; have e47 := hp.b 22 0; have k1 := (hI.cell (p := ⟨wr.heap.size, 1, none⟩) hbW).trans d1; refine ⟨hp.wt e31, ?_⟩; clear hp; go_simp; rfl
            refine Free.Seq.op (T := fun v w' => ∃ p, v = .slice (some ⟨p, 0, none⟩) 2 2 ∧ p < w'.heap.size ∧ w'.cell? ⟨p, 0, none⟩ = some (.int .i64 o) ∧ w'.cell? ⟨p, 1, none⟩ = some (.int .i64 e)) (by rintro v x y ⟨p, rfl, h1, h2, h3⟩ hg; exact ⟨p, rfl, Nat.lt_of_lt_of_le h1 hg.size, (hg.cell (p := ⟨p, 0, none⟩) h1).trans h2, (hg.cell (p := ⟨p, 1, none⟩) h1).trans h3⟩) (fun a w1 hI hp => ?_) ?_
            · have e31 := hp.b 6 17; have e46 := hp.b 21 2; have e48 := hp.b 23 0; refine ⟨hp.wt e31, (.slice (some ⟨w1.heap.size, 0, none⟩) 2 2), (w1.alloc (.cells #[.int .i64 o, .int .i64 e] 3)), ?_, ⟨_, rfl, by simp, World.cell?_alloc_mark w1 _ _ _ 0, World.cell?_alloc_mark w1 _ _ _ 1⟩, (Below.refl _ _).alloc (Nat.le_refl _) _, hI.alloc hI.size _⟩; clear hp; go_simp
            refine Free.Seq.call (T := Free.eqF (.int .i64 (cmp2 po pe o e))) (fun _ _ _ h _ => h) (fun a w1 hI hp => ?_) ?_
            · have e31 := hp.b 6 18; obtain ⟨p1, e44, x1, x2, x3⟩ := hp.back 19 5 rfl rfl rfl rfl rfl; obtain ⟨p2, e49, y1, y2, y3⟩ := hp.back 24 0 rfl rfl rfl rfl rfl; refine ⟨hp.wt e31, 69, #[.slice (some ⟨p1, 0, none⟩) 2 2, .slice (some ⟨p2, 0, none⟩) 2 2], ?_, ?_⟩
              · clear hp; go_simp
              · refine (compare_any po pe o e p1 p2 w1 x2 x3 y2 y3).mono ?_; rintro e w' ⟨rfl, rfl⟩; exact ⟨_, rfl, rfl, Below.refl _ _, hI⟩
            apply Free.sv; intro a w1 hI hp
            · have e31 := hp.b 6 19; have e50 := hp.b 25 0; refine ⟨hp.wt e31, ?_⟩; clear hp; go_simp; rfl
            apply Free.sv; intro a w1 hI hp
            · have e28 := hp.b 3 23; have e31 := hp.b 6 20; have e51 := hp.b 26 0; refine ⟨hp.wt e28, ?_⟩; clear hp; go_simp; rfl
            apply Free.sv; intro a w1 hI hp
            · have e28 := hp.b 3 24; have e52 := hp.b 27 0; refine ⟨Free.wn, ?_⟩; clear hp; go_simp; rfl
            refine Free.Seq.done (by simp) (fun wz hIz => ?_); simp only [List.reverse_cons, List.reverse_nil, List.nil_append, List.cons_append, Free.All, Free.eqF, forall_eq]; rintro _ ⟨p1, rfl, -, -, -⟩ _ ⟨p2, rfl, -, -, -⟩; have HIZ := Lib.hid hIz; clear hIz; simp only [Free.putL, Act.put, List.setIfInBounds_toArray, List.set_cons_zero, List.set_cons_succ]; have hbb : behind ⟨po, pe, pu, pm⟩ ⟨o, e, u, mm⟩ = true := by
              simp only [behind, decide_eq_true_eq]; exact (cmp2_lt _ _ _ _).1 hbh
            have HBH : Hid (∀ p, (l.take k).getLast? = some p → behind p ⟨o, e, u, mm⟩ = true) := by
              intro p hp; rw [HPREV.out, if_neg hk0, HXP.out] at hp; injection hp with hp
              rw [← hp]; exact hbb
            have HQ2 : Hid (marksB none l = marksB (some ⟨o, e, u, mm⟩) (l.drop (k + 1))) := by
              refine HQ.out.trans ?_; rw [HR1.out, if_neg hk0, HXP.out]; simp [hbb]
            clear hbb hsub hsub2 hsub3 hd hd2 hbh
            dsimp only [Exit.then]
            go_wp2_with fail
            have hzz := HIZ.out.size; have hsZ : s < wz.heap.size := by omega
            have hbZ : wr.heap.size < wz.heap.size := by omega
            have s1 : wz.cell? ⟨s, 1, none⟩ = some (.map (some m)) := by
              have : wz.heap[s]? = _ := (HIZ.out.block s (by omega)).trans ((HWW.out.block s (by omega)).trans (HSB.out.trans HS.out)); rw [cell_of_cells this]; rfl
            have z0 := (HIZ.out.cell (p := ⟨wr.heap.size, 0, none⟩) hbW).trans d0; have z1 := (HIZ.out.cell (p := ⟨wr.heap.size, 1, none⟩) hbW).trans d1; have z2 := (HIZ.out.cell (p := ⟨wr.heap.size, 2, none⟩) hbW).trans d2; have z3 := (HIZ.out.cell (p := ⟨wr.heap.size, 3, none⟩) hbW).trans d3; have HMZ := Lib.hid (HMW.out.below keeps_int HIZ.out); have HBZ := Lib.hid (HWW.out.trans (HIZ.out.mono (by omega))); have hnb : nm ≤ 1000000000000 := by
              have h1 := right_len HR1.out; have h3 := HNM.out; simp only at h1; omega
            refine Free.wp_last (I := fun w' => Below wz.heap.size wz w') (Gr := fun w1 w2 => Below w1.heap.size w1 w2) (by kernel_rfl) (by simp) (by kernel_rfl) (by kernel_rfl) (Below.refl _ _).drew ?_
            dsimp only [List.dropLast, List.getLast]
            apply Free.sv; intro a w1 hI hp
            · have e6 := hp.sl 6; simp at e6; refine ⟨Free.wn, ?_⟩; clear hp; go_simp; rfl
            apply Free.sv; intro a w1 hI hp
            · have e54 := hp.b 0 0; refine ⟨Free.wn, ?_⟩; clear hp; go_simp; rfl
            apply Free.sv; intro a w1 hI hp
            · have e55 := hp.b 1 0; refine ⟨Free.wn, ?_⟩; clear hp; go_simp; rfl
            apply Free.sv; intro a w1 hI hp
            · have e56 := hp.b 2 0; have k1 := (hI.cell (p := ⟨s, 1, none⟩) hsZ).trans s1; refine ⟨Free.wn, ?_⟩; clear hp; go_simp; rfl
            apply Free.sv; intro a w1 hI hp
            · have e9 := hp.sl 9; simp at e9; refine ⟨Free.wn, ?_⟩; clear hp; go_simp; rfl
            apply Free.sv; intro a w1 hI hp
            · have e58 := hp.b 4 0; have k0 := (hI.cell (p := ⟨wr.heap.size, 0, none⟩) hbZ).trans z0; refine ⟨Free.wn, ?_⟩; clear hp; go_simp; rfl
            apply Free.sv; intro a w1 hI hp
            · have e9 := hp.sl 9; simp at e9; refine ⟨Free.wn, ?_⟩; clear hp; go_simp; rfl
            apply Free.sv; intro a w1 hI hp
            · have e60 := hp.b 6 0; have k1 := (hI.cell (p := ⟨wr.heap.size, 1, none⟩) hbZ).trans z1; refine ⟨Free.wn, ?_⟩; clear hp; go_simp; rfl
            apply Free.sv; intro a w1 hI hp
            · have e59 := hp.b 5 2; have e61 := hp.b 7 0; refine ⟨Free.wn, ?_⟩; clear hp; go_simp; rfl
            apply Free.sv; intro a w1 hI hp
            · have e9 := hp.sl 9; simp at e9; refine ⟨Free.wn, ?_⟩; clear hp; go_simp; rfl
            apply Free.sv; intro a w1 hI hp
            · have e63 := hp.b 9 0; have k2 := (hI.cell (p := ⟨wr.heap.size, 2, none⟩) hbZ).trans z2; refine ⟨Free.wn, ?_⟩; clear hp; go_simp; rfl
            refine Free.Seq.op (T := fun v w' => ∃ p, v = .slice (some ⟨p, 0, none⟩) 0 0 ∧ wz.heap.size ≤ p ∧ w'.heap[p]? = some (.cells #[] 3 (0, 0))) (by rintro v x y ⟨p, rfl, h1, h2⟩ hg; exact ⟨p, rfl, h1, (hg.block p (Array.getElem?_eq_some_iff.1 h2).1).trans h2⟩) (fun a w1 hI hp => ?_) ?_
            · skip
              refine ⟨Free.wn, (.slice (some ⟨w1.heap.size, 0, none⟩) 0 0), (w1.alloc (.cells #[] 3)), ?_, ⟨_, rfl, hI.size, heap_alloc_new w1 _⟩, (Below.refl _ _).alloc (Nat.le_refl _) _, hI.alloc hI.size _⟩; clear hp; go_simp
            apply Free.sv; intro a w1 hI hp
            · have e9 := hp.sl 9; simp at e9; refine ⟨Free.wn, ?_⟩; clear hp; go_simp; rfl
            apply Free.sv; intro a w1 hI hp
            · have e66 := hp.b 12 0; have k3 := (hI.cell (p := ⟨wr.heap.size, 3, none⟩) hbZ).trans z3; refine ⟨Free.wn, ?_⟩; clear hp; go_simp; rfl
            refine Free.Seq.op (T := fun v w' => ∃ A' c', v = .slice A' nm c') (fun _ _ _ h _ => h) (fun a w1 hI hp => ?_) ?_
            · have e67 := hp.b 13 0; obtain ⟨p, e65, hp1, hp2⟩ := hp.back 11 2 rfl rfl rfl rfl rfl; obtain ⟨A', c', w', hr, hbz⟩ := app_ints w1 hp2 (HMZ.out.below keeps_int hI) hnb 56; exact ⟨Free.wn, .slice A' nm c', w', exec_app (.tmp 65) (.tmp 67) rfl (by simpa [Act.eval] using e65) (by simpa [Act.eval] using e67) hr, ⟨A', c', rfl⟩, hbz, hI.trans (hbz.mono hI.size)⟩
            refine Free.Seq.op (T := fun v w' => ∃ A' c', v = .agg #[.int .i64 u, .slice A' nm c']) (fun _ _ _ h _ => h) (fun a w1 hI hp => ?_) ?_
            · have e64 := hp.b 10 4; obtain ⟨A', c', e68⟩ := hp.back 14 0 rfl rfl rfl rfl rfl; refine ⟨Free.wn, .agg #[.int .i64 u, .slice A' nm c'], w1, ?_, ⟨A', c', rfl⟩, Below.refl _ _, hI⟩; clear hp; go_simp
            refine Free.Seq.op (T := fun v w' => ∃ r A' c', v = .pointer (some ⟨r, 0, none⟩) ∧ wz.heap.size ≤ r ∧ r < w'.heap.size ∧ w'.cell? ⟨r, 1, none⟩ = some (.slice A' nm c')) (by rintro v x y ⟨r, A', c', rfl, h0, h1, h2⟩ hg; exact ⟨r, A', c', rfl, h0, Nat.lt_of_lt_of_le h1 hg.size, (hg.cell (p := ⟨r, 1, none⟩) h1).trans h2⟩) (fun a w1 hI hp => ?_) ?_
            · skip
              obtain ⟨A', c', e69⟩ := hp.back 15 0 rfl rfl rfl rfl rfl; refine ⟨Free.wn, .pointer (some ⟨w1.heap.size, 0, none⟩), w1.alloc (.cells #[.int .i64 u, .slice A' nm c'] 127), ?_, ⟨_, A', c', rfl, hI.size, by simp, World.cell?_alloc_mark w1 _ _ _ 1⟩, (Below.refl _ _).alloc (Nat.le_refl _) _, hI.alloc hI.size _⟩; clear hp; go_simp
            refine Free.Seq.done (by simp) (fun wz hIz => ?_); simp only [List.reverse_cons, List.reverse_nil, List.nil_append, List.cons_append, Free.All, Free.eqF, forall_eq]; rintro _ ⟨p5, rfl, -, -⟩ _ ⟨A6, c6, rfl⟩ _ ⟨A7, c7, rfl⟩ _ ⟨r8, A8, c8, rfl, hr1, hr2, hr3⟩; simp only [Free.putL, Act.put, List.setIfInBounds_toArray, List.set_cons_zero, List.set_cons_succ]; refine ⟨trivial, ?_⟩; have hz9 := hIz.size; have hB9 : Below wr.heap.size wr wz := HBZ.out.trans (hIz.mono (by omega)); have hM9 : MapAt wz m kv := HMAP.out.keep (hB9.block m HMAP.out.lt); have hne := HSRT.out.ne (m := ⟨o, e, u, mm⟩) HBH.out; have hup := update_new (P := Try.prog) (M := 128) (T := 131) (E := 125) (k := prv o e) Try.underlying128 Try.underlying131 (fun a b => by cases a <;> cases b <;> rfl) hM9 (check_pr false o e _) (fun x hx => by
              obtain ⟨j, hj⟩ := List.getElem?_of_mem hx; have hjl : j < (l.take k).length := by rw [← HROWS.out.1]; exact (List.getElem?_eq_some_iff.1 hj).1
              obtain ⟨r, A', c', rfl, _⟩ := HROWS.out.2 j x _ hj (List.getElem?_eq_getElem hjl); rw [eq_pr]; have := hne _ (List.getElem_mem hjl)
              simpa using this) (.pointer (some ⟨r8, 0, none⟩))
            have hM10 := moreMap_at hM9 (prv o e) (.pointer (some ⟨r8, 0, none⟩)); obtain ⟨W', hW'⟩ : ∃ W', W' = moreMap wz m kv (prv o e) (.pointer (some ⟨r8, 0, none⟩)) := ⟨_, rfl⟩; rw [← hW'] at hup hM10; have hs' : W'.heap.size = wz.heap.size := by rw [hW']; exact moreMap_size _ _
            have hot : ∀ j, j ≠ m → W'.heap[j]? = wz.heap[j]? := fun j hj => by rw [hW']; exact moreMap_other _ _ hj
            have hb11 : Below w.heap.size wz W' := ⟨by rw [hW']; rfl, by rw [hW']; rfl, by rw [hW']; rfl, by omega, fun j hj => hot j (by omega)⟩; have HB11 : Hid (Below w.heap.size w W') := HBW.out.trans ((hB9.mono (by have := HBW.out.size; omega)).trans hb11); have hr4 : W'.cell? ⟨r8, 1, none⟩ = some (.slice A8 nm c8) := (World.cell?_of_block (w := wz) (a := ⟨r8, 1, none⟩) (hot r8 (by have := HMAP.out.lt; omega))).trans hr3; have htk : l.take (k + 1) = l.take k ++ [⟨o, e, u, mm⟩] := by rw [List.take_add_one, HX.out]; rfl
            have HRO : Hid (RowsOf W' w1.heap.size (kv ++ [(prv o e, .pointer (some ⟨r8, 0, none⟩))]) (l.take (k + 1))) := by
              show RowsOf _ _ _ _
              rw [htk]; refine RowsOf.snoc (m := ⟨o, e, u, mm⟩) (HROWS.out.keep (by omega) (fun j h1 h2 => World.cell?_of_block (w := wr) (a := ⟨j, 1, none⟩) ((hot j (by omega)).trans (hB9.block j h2)))) (by omega) (by omega) (by rw [hr4, HNM.out])
            have HSR : Hid (Srt (l.take (k + 1))) := by
              show Srt _
              rw [htk]; exact HSRT.out.snoc HBH.out
            have HSB2 : Hid (W'.heap[s]? = w1.heap[s]?) := (hot s (by omega)).trans ((hB9.block s (by omega)).trans HSB.out); have HM11 := Lib.hid hM10; have HQ3 : Hid (marksB none l = marksB (l.take (k + 1)).getLast? (l.drop (k + 1))) := by
              show _ = _
              rw [htk, List.getLast?_append, List.getLast?_singleton]; exact HQ2.out
            have hwz9 : w1.heap.size ≤ W'.heap.size := by have := HBW.out.size; omega
            clear hot hM9 hne hM10 hb11 hr4 htk hB9 hIz hr1 hr2 hr3; refine wpList_mapRun hup rfl _ _ _ rfl rfl rfl rfl ?_; clear hup hW'
            go_wp2_with fail
            exact ⟨⟨k + 1, by simp, by omega, HQ3.out, HSR.out, HSB2.out, HB11.out, hwz9, _, HM11.out, HRO.out⟩, by simp only [intOf]; omega⟩
          · have hd2 : decide (0 ≤ cmp2 po pe o e) = true := by simp; omega
            refine Free.wp_seq (I := fun w' => Below W.heap.size W w') (Gr := fun w1 w2 => Below w1.heap.size w1 w2) (by kernel_rfl) (by kernel_rfl) (Below.refl _ _).drew ?_
            apply Free.sv; intro a w1 hI hp
            · have e9 := hp.sl 9; simp at e9; have k0 := (hI.cell (p := ⟨wr.heap.size, 0, none⟩) hbW).trans d0; have k1 := (hI.cell (p := ⟨wr.heap.size, 1, none⟩) hbW).trans d1; have k2 := (hI.cell (p := ⟨wr.heap.size, 2, none⟩) hbW).trans d2; have k3 := (hI.cell (p := ⟨wr.heap.size, 3, none⟩) hbW).trans d3; refine ⟨Free.wn, ?_⟩; clear hp; go_simp; rfl
            refine Free.Seq.call (T := Free.eqF (.bool true)) (fun _ _ _ h _ => h) (fun a w1 hI hp => ?_) ?_
            · have e25 := hp.b 0 0; refine ⟨Free.wn, 68, #[.agg #[.int .i64 o, .int .i64 e, .int .i64 u, .slice Ax nm cx]], ?_, ?_⟩
              · clear hp; go_simp
              · refine (HCR.out _ hI).mono ?_; rintro e w' ⟨rfl, hb⟩; exact ⟨_, rfl, rfl, hb, hI.trans (hb.mono hI.size)⟩
            apply Free.sv; intro a w1 hI hp
            · have e26 := hp.b 1 0; refine ⟨Free.wn, ?_⟩; clear hp; go_simp; rfl
            apply Free.sv; intro a w1 hI hp
            · have e27 := hp.b 2 0; refine ⟨Free.wn, ?_⟩; clear hp; go_simp; rfl
            apply Free.sv; intro a w1 hI hp
            · have e28 := hp.b 3 0; have e8 := hp.sl 8; simp at e8; refine ⟨hp.wt e28, ?_⟩; clear hp; go_simp; rfl
            apply Free.sv; intro a w1 hI hp
            · have e28 := hp.b 3 1; have e29 := hp.b 4 0; refine ⟨hp.wt e28, ?_⟩; clear hp; go_simp; rfl
            apply Free.sv; intro a w1 hI hp
            · have e28 := hp.b 3 2; have e30 := hp.b 5 0; refine ⟨hp.wt e28, ?_⟩; clear hp; go_simp; rfl
            apply Free.sv; intro a w1 hI hp
            · have e31 := hp.b 6 0; have e1 := hp.sl 1; simp at e1; refine ⟨hp.wt e31, ?_⟩; clear hp; go_simp; rfl
            apply Free.sv; intro a w1 hI hp
            · have e31 := hp.b 6 1; have e8 := hp.sl 8; simp at e8; refine ⟨hp.wt e31, ?_⟩; clear hp; go_simp; rfl
            apply Free.sv; intro a w1 hI hp
            · have e31 := hp.b 6 2; have e33 := hp.b 8 0; refine ⟨hp.wt e31, ?_⟩; clear hp; go_simp; rfl
            apply Free.sv; intro a w1 hI hp
            · have e31 := hp.b 6 3; have e32 := hp.b 7 2; have e34 := hp.b 9 0; refine ⟨hp.wt e31, ?_⟩; clear hp; go_simp; rfl
            apply Free.sv; intro a w1 hI hp
            · have e31 := hp.b 6 4; have e35 := hp.b 10 0; refine ⟨hp.wt e31, ?_⟩; clear hp; go_simp; rfl
            apply Free.sv; intro a w1 hI hp
            · have e31 := hp.b 6 5; have e36 := hp.b 11 0; have k0 := (hI.cell (p := ⟨b, off + (k - 1) * 4, none⟩) hbp).trans f0; refine ⟨hp.wt e31, ?_⟩; clear hp; go_simp; rfl
            apply Free.sv; intro a w1 hI hp
            · have e31 := hp.b 6 6; have e1 := hp.sl 1; simp at e1; refine ⟨hp.wt e31, ?_⟩; clear hp; go_simp; rfl
            apply Free.sv; intro a w1 hI hp
            · have e31 := hp.b 6 7; have e8 := hp.sl 8; simp at e8; refine ⟨hp.wt e31, ?_⟩; clear hp; go_simp; rfl
            apply Free.sv; intro a w1 hI hp
            · have e31 := hp.b 6 8; have e39 := hp.b 14 0; refine ⟨hp.wt e31, ?_⟩; clear hp; go_simp; rfl
            apply Free.sv; intro a w1 hI hp
            · have e31 := hp.b 6 9; have e38 := hp.b 13 2; have e40 := hp.b 15 0; refine ⟨hp.wt e31, ?_⟩; clear hp; go_simp; rfl
            apply Free.sv; intro a w1 hI hp
            · have e31 := hp.b 6 10; have e41 := hp.b 16 0; refine ⟨hp.wt e31, ?_⟩; clear hp; go_simp; rfl
            apply Free.sv; intro a w1 hI hp
            · have e31 := hp.b 6 11; have e42 := hp.b 17 0; have k1 := (hI.cell (p := ⟨b, off + (k - 1) * 4 + 1, none⟩) hbp).trans f1; refine ⟨hp.wt e31, ?_⟩; clear hp; go_simp; rfl
            refine Free.Seq.op (T := fun v w' => ∃ p, v = .slice (some ⟨p, 0, none⟩) 2 2 ∧ p < w'.heap.size ∧ w'.cell? ⟨p, 0, none⟩ = some (.int .i64 po) ∧ w'.cell? ⟨p, 1, none⟩ = some (.int .i64 pe)) (by rintro v x y ⟨p, rfl, h1, h2, h3⟩ hg; exact ⟨p, rfl, Nat.lt_of_lt_of_le h1 hg.size, (hg.cell (p := ⟨p, 0, none⟩) h1).trans h2, (hg.cell (p := ⟨p, 1, none⟩) h1).trans h3⟩) (fun a w1 hI hp => ?_) ?_
            · have e31 := hp.b 6 12; have e37 := hp.b 12 6; have e43 := hp.b 18 0; refine ⟨hp.wt e31, (.slice (some ⟨w1.heap.size, 0, none⟩) 2 2), (w1.alloc (.cells #[.int .i64 po, .int .i64 pe] 3)), ?_, ⟨_, rfl, by simp, World.cell?_alloc_mark w1 _ _ _ 0, World.cell?_alloc_mark w1 _ _ _ 1⟩, (Below.refl _ _).alloc (Nat.le_refl _) _, hI.alloc hI.size _⟩; clear hp; go_simp
            apply Free.sv; intro a w1 hI hp
            · have e31 := hp.b 6 13; have e9 := hp.sl 9; simp at e9; refine ⟨hp.wt e31, ?_⟩; clear hp; go_simp; rfl
            apply Free.sv; intro a w1 hI hp
            · have e31 := hp.b 6 14; have e45 := hp.b 20 0; have k0 := (hI.cell (p := ⟨wr.heap.size, 0, none⟩) hbW).trans d0; refine ⟨hp.wt e31, ?_⟩; clear hp; go_simp; rfl
            apply Free.sv; intro a w1 hI hp
            · have e31 := hp.b 6 15; have e9 := hp.sl 9; simp at e9; refine ⟨hp.wt e31, ?_⟩; clear hp; go_simp; rfl
            apply Free.sv; intro a w1 hI hp
            · have e31 := hp.b 6 16; have e47 := hp.b 22 0; have k1 := (hI.cell (p := ⟨wr.heap.size, 1, none⟩) hbW).trans d1; refine ⟨hp.wt e31, ?_⟩; clear hp; go_simp; rfl
            refine Free.Seq.op (T := fun v w' => ∃ p, v = .slice (some ⟨p, 0, none⟩) 2 2 ∧ p < w'.heap.size ∧ w'.cell? ⟨p, 0, none⟩ = some (.int .i64 o) ∧ w'.cell? ⟨p, 1, none⟩ = some (.int .i64 e)) (by rintro v x y ⟨p, rfl, h1, h2, h3⟩ hg; exact ⟨p, rfl, Nat.lt_of_lt_of_le h1 hg.size, (hg.cell (p := ⟨p, 0, none⟩) h1).trans h2, (hg.cell (p := ⟨p, 1, none⟩) h1).trans h3⟩) (fun a w1 hI hp => ?_) ?_
            · have e31 := hp.b 6 17; have e46 := hp.b 21 2; have e48 := hp.b 23 0; refine ⟨hp.wt e31, (.slice (some ⟨w1.heap.size, 0, none⟩) 2 2), (w1.alloc (.cells #[.int .i64 o, .int .i64 e] 3)), ?_, ⟨_, rfl, by simp, World.cell?_alloc_mark w1 _ _ _ 0, World.cell?_alloc_mark w1 _ _ _ 1⟩, (Below.refl _ _).alloc (Nat.le_refl _) _, hI.alloc hI.size _⟩; clear hp; go_simp
            refine Free.Seq.call (T := Free.eqF (.int .i64 (cmp2 po pe o e))) (fun _ _ _ h _ => h) (fun a w1 hI hp => ?_) ?_
            · have e31 := hp.b 6 18; obtain ⟨p1, e44, x1, x2, x3⟩ := hp.back 19 5 rfl rfl rfl rfl rfl; obtain ⟨p2, e49, y1, y2, y3⟩ := hp.back 24 0 rfl rfl rfl rfl rfl; refine ⟨hp.wt e31, 69, #[.slice (some ⟨p1, 0, none⟩) 2 2, .slice (some ⟨p2, 0, none⟩) 2 2], ?_, ?_⟩
              · clear hp; go_simp
              · refine (compare_any po pe o e p1 p2 w1 x2 x3 y2 y3).mono ?_; rintro e w' ⟨rfl, rfl⟩; exact ⟨_, rfl, rfl, Below.refl _ _, hI⟩
            apply Free.sv; intro a w1 hI hp
            · have e31 := hp.b 6 19; have e50 := hp.b 25 0; refine ⟨hp.wt e31, ?_⟩; clear hp; go_simp; rfl
            apply Free.sv; intro a w1 hI hp
            · have e28 := hp.b 3 23; have e31 := hp.b 6 20; have e51 := hp.b 26 0; refine ⟨hp.wt e28, ?_⟩; clear hp; go_simp; rfl
            apply Free.sv; intro a w1 hI hp
            · have e28 := hp.b 3 24; have e52 := hp.b 27 0; refine ⟨Free.wn, ?_⟩; clear hp; go_simp; rfl
            refine Free.Seq.done (by simp) (fun wz hIz => ?_); simp only [List.reverse_cons, List.reverse_nil, List.nil_append, List.cons_append, Free.All, Free.eqF, forall_eq]; rintro _ ⟨p1, rfl, -, -, -⟩ _ ⟨p2, rfl, -, -, -⟩; have HIZ := Lib.hid hIz; clear hIz; simp only [Free.putL, Act.put, List.setIfInBounds_toArray, List.set_cons_zero, List.set_cons_succ]; have hbb : behind ⟨po, pe, pu, pm⟩ ⟨o, e, u, mm⟩ = false := by
              have := fun h => hbh ((cmp2_lt po pe o e).2 h)
              simpa only [behind, decide_eq_false_iff_not] using this
            have hRR : R = 2 := by
              rw [HRR.out, fromE, if_pos]; rw [HQ.out, HR1.out, if_neg hk0, HXP.out]; simp [hbb]
            have HRR2 := Lib.hid hRR; have HBZ := Lib.hid (HBW.out.trans ((HWW.out.trans (HIZ.out.mono (by omega))).mono (by have := HBW.out.size; omega))); clear hbb hRR hsub hsub2 hsub3 hd hd2 hbh
            dsimp only [Exit.then]
            go_wp2_with fail
            go_ret2
            first
            | exact ⟨none, by rw [HRR2.out]; rfl, HBZ.out⟩
            | exact ⟨⟨none, by rw [HRR2.out]; rfl⟩, HBZ.out⟩
      · have hrf : rightB ⟨o, e, u, mm⟩ = false := by simpa using hr
        rw [hrf] at hcr; have HCR := Lib.hid hcr; have HR1 := Lib.hid hrf; clear hcr hr hrf; refine Free.wp_seq (I := fun w' => Below W.heap.size W w') (Gr := fun w1 w2 => Below w1.heap.size w1 w2) (by kernel_rfl) (by kernel_rfl) (Below.refl _ _).drew ?_
        apply Free.sv; intro a w1 hI hp
        · have e9 := hp.sl 9; simp at e9; have k0 := (hI.cell (p := ⟨wr.heap.size, 0, none⟩) hbW).trans d0; have k1 := (hI.cell (p := ⟨wr.heap.size, 1, none⟩) hbW).trans d1; have k2 := (hI.cell (p := ⟨wr.heap.size, 2, none⟩) hbW).trans d2; have k3 := (hI.cell (p := ⟨wr.heap.size, 3, none⟩) hbW).trans d3; refine ⟨Free.wn, ?_⟩; clear hp; go_simp; rfl
        refine Free.Seq.call (T := Free.eqF (.bool false)) (fun _ _ _ h _ => h) (fun a w1 hI hp => ?_) ?_
        · have e25 := hp.b 0 0; refine ⟨Free.wn, 68, #[.agg #[.int .i64 o, .int .i64 e, .int .i64 u, .slice Ax nm cx]], ?_, ?_⟩
          · clear hp; go_simp
          · refine (HCR.out _ hI).mono ?_; rintro e w' ⟨rfl, hb⟩; exact ⟨_, rfl, rfl, hb, hI.trans (hb.mono hI.size)⟩
        apply Free.sv; intro a w1 hI hp
        · have e26 := hp.b 1 0; refine ⟨Free.wn, ?_⟩; clear hp; go_simp; rfl
        apply Free.sv; intro a w1 hI hp
        · have e27 := hp.b 2 0; refine ⟨Free.wn, ?_⟩; clear hp; go_simp; rfl
        refine Free.sp 3 0 ?_; refine Free.sp 3 1 ?_; refine Free.sp 3 2 ?_; refine Free.Seq.pass (fun a w1 hI hp => hp.passU rfl rfl rfl (hp.b 6 0)) ?_; refine Free.Seq.pass (fun a w1 hI hp => hp.passU rfl rfl rfl (hp.b 6 1)) ?_; refine Free.Seq.pass (fun a w1 hI hp => hp.passU rfl rfl rfl (hp.b 6 2)) ?_; refine Free.Seq.pass (fun a w1 hI hp => hp.passU rfl rfl rfl (hp.b 6 3)) ?_; refine Free.Seq.pass (fun a w1 hI hp => hp.passU rfl rfl rfl (hp.b 6 4)) ?_; refine Free.Seq.pass (fun a w1 hI hp => hp.passU rfl rfl rfl (hp.b 6 5)) ?_; refine Free.Seq.pass (fun a w1 hI hp => hp.passU rfl rfl rfl (hp.b 6 6)) ?_; refine Free.Seq.pass (fun a w1 hI hp => hp.passU rfl rfl rfl (hp.b 6 7)) ?_; refine Free.Seq.pass (fun a w1 hI hp => hp.passU rfl rfl rfl (hp.b 6 8)) ?_; refine Free.Seq.pass (fun a w1 hI hp => hp.passU rfl rfl rfl (hp.b 6 9)) ?_; refine Free.Seq.pass (fun a w1 hI hp => hp.passU rfl rfl rfl (hp.b 6 10)) ?_; refine Free.Seq.pass (fun a w1 hI hp => hp.passU rfl rfl rfl (hp.b 6 11)) ?_; refine Free.Seq.pass (fun a w1 hI hp => hp.passU rfl rfl rfl (hp.b 6 12)) ?_; refine Free.Seq.pass (fun a w1 hI hp => hp.passU rfl rfl rfl (hp.b 6 13)) ?_; refine Free.Seq.pass (fun a w1 hI hp => hp.passU rfl rfl rfl (hp.b 6 14)) ?_; refine Free.Seq.pass (fun a w1 hI hp => hp.passU rfl rfl rfl (hp.b 6 15)) ?_; refine Free.Seq.pass (fun a w1 hI hp => hp.passU rfl rfl rfl (hp.b 6 16)) ?_; refine Free.Seq.pass (fun a w1 hI hp => hp.passU rfl rfl rfl (hp.b 6 17)) ?_; refine Free.Seq.pass (fun a w1 hI hp => hp.passU rfl rfl rfl (hp.b 6 18)) ?_; refine Free.Seq.pass (fun a w1 hI hp => hp.passU rfl rfl rfl (hp.b 6 19)) ?_; refine Free.sp 3 23 ?_
        apply Free.sv; intro a w1 hI hp
        · have e28 := hp.b 3 24; have e52 := hp.b 27 0; refine ⟨Free.wn, ?_⟩; clear hp; go_simp; rfl
        refine Free.Seq.done (by simp) (fun wz hIz => ?_); simp only [List.reverse_cons, List.reverse_nil, List.nil_append, List.cons_append, Free.All, Free.eqF, forall_eq]; have HIZ := Lib.hid hIz; clear hIz; simp only [Free.putL, Act.put, List.setIfInBounds_toArray, List.set_cons_zero, List.set_cons_succ]; have hRR : R = 2 := by
          rw [HRR.out, fromE, if_pos]; rw [HQ.out, HR1.out]; simp
        have HRR2 := Lib.hid hRR; have HBZ := Lib.hid (HBW.out.trans ((HWW.out.trans (HIZ.out.mono (by omega))).mono (by have := HBW.out.size; omega))); clear hRR
        dsimp only [Exit.then]
        go_wp2_with fail
        go_ret2
        first
            | exact ⟨none, by rw [HRR2.out]; rfl, HBZ.out⟩
            | exact ⟨⟨none, by rw [HRR2.out]; rfl⟩, HBZ.out⟩
    · have hkn : k = n := by omega
      subst hkn; have hlen := HN.out.len; have HMB : Hid (marksB none l = true) := by
        refine HQ.out.trans ?_; rw [List.drop_eq_nil_of_le (by omega)]
        cases (l.take k).getLast? <;> rfl
      have HG : Hid (gaps l ≤ 1000000000000) := Lib.hid (marks_gaps HMB.out); have HCG : Hid (Calls Try.prog 70 #[.pointer (some ⟨s, 0, none⟩)] wr fun e w' => e = .returned (.int .i64 (gaps l : Nat)) ∧ Below wr.heap.size wr w') := by
        have htk : l.take k = l := List.take_of_length_le (by omega); have hrw := HROWS.out; rw [htk] at hrw; have := gaps_any 256 m s kv (l.map fun x => x.m.length) wr (HSB.out.trans HS.out) HMAP.out (by rw [List.length_map, hrw.1]) (fun j x nn hx hnn => by
          simp only [List.getElem?_map, Option.map_eq_some_iff] at hnn; obtain ⟨y, hy, rfl⟩ := hnn; obtain ⟨r, A', c', rfl, _, h2, h3⟩ := hrw.2 j x y hx hy; exact ⟨r, A', c', rfl, h2, h3⟩) (by simpa only [gaps] using HG.out)
        exact Lib.hid this
      have s0 : wr.cell? ⟨s, 0, none⟩ = some (.int .i64 256) := by
        rw [cell_of_cells (HSB.out.trans HS.out)]; rfl
      obtain ⟨g, hg⟩ : ∃ g, g = gaps l := ⟨_, rfl⟩; rw [← hg] at HCG HG; have HGE := Lib.hid hg; clear hg; have hgb := HG.out
      go_wp2_with fail
      refine HCG.out.mono ?_; rintro e9 w9 ⟨rfl, hb9⟩; have HB9 := Lib.hid hb9; have hsz9 := hb9.size; have hsr := HBW.out.size; have s09 := (hb9.cell (p := ⟨s, 0, none⟩) (by show s < _; omega)).trans s0; clear hb9; have hs9 : s < w9.heap.size := by omega
      have HB10 := Lib.hid (HBW.out.trans (HB9.out.mono hsr))
      by_cases hgg : 256 < g
      · have hRR : R = 6 := by
          rw [HRR.out, fromE, if_neg (by rw [HMB.out]; simp), if_pos (by rw [← HGE.out]; exact hgg)]
        have HRR2 := Lib.hid hRR; clear hRR
        go_wp2_with fail
        go_ret2
        first
          | exact ⟨_, by rw [HRR2.out]; rfl, HB10.out⟩
          | exact ⟨⟨_, by rw [HRR2.out]; rfl⟩, HB10.out⟩
      · have hRR : R = 0 := by
          rw [HRR.out, fromE, if_neg (by rw [HMB.out]; simp), if_neg (by rw [← HGE.out]; exact hgg)]
        have HRR2 := Lib.hid hRR; clear hRR
        go_wp2_with fail
        go_ret2
        first
          | exact ⟨_, by rw [HRR2.out]; rfl, HB10.out⟩
          | exact ⟨⟨_, by rw [HRR2.out]; rfl⟩, HB10.out⟩
end Go.Proofs.Ytcnlgcmooegfkaa
