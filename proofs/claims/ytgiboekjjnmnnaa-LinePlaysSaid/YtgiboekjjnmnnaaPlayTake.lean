/-
  THE WALK OF play: Take, Put.
-/
import Derived.Test.YtgiboekjjnmnnaaPlay
namespace Go.Proofs.Ytgiboekjjnmnnaa
open Go.RowKit

/-- bytes that a call has made, its row beyond play's boxes -/
def TR (B : Nat) (k : Nat) (q : List UInt8) : Free.Fact := fun v w' => ∃ A c, v = .slice A k c ∧ Rd w' A k c q ∧ ∀ b off, A = some ⟨b, off, none⟩ → B ≤ b
theorem TR.mono {B k : Nat} {q : List UInt8} (v : Value) (x y : World) (h : TR B k q v x) (hk : Kept (fun i => i < B) x y) : TR B k q v y := by
  obtain ⟨A, c, rfl, hr, hA⟩ := h
  exact ⟨A, c, rfl, hr.keep hk.size fun b off e hb => hk.block b hb (by have := hA b off e; omega), hA⟩

set_option maxHeartbeats 2000000 in
theorem play_take (w0 w : World) {g : Nat} {dl nw : Int} {n : Nat} {P D : Value} {p : List UInt8} {due : List Int} {A : Option Addr} {c : Nat} (h : Both w0 g dl nw n P D p due A n c (ways nw p due) w) (hn : n ≤ 65536) (hd : ∀ d ∈ due, d ≤ nw + 64)
    (at_ num : Int) (Aa : Option Addr) (na ca : Nat) :
    Calls Try.prog 14 #[.pointer (some ⟨g, 0, none⟩), .agg #[.int .i64 dl, .slice A n c], .agg #[.int .i64 2, .int .i64 at_, .int .i64 num, .slice Aa na ca]] w (Plays w0 g dl nw P D A n w) := by
  have hlow := h.low
  have hw0 := h.bel.size
  have hpl := h.ln.plen
  have hdl := h.ln.dlen
  obtain ⟨k, hk, h1, h2⟩ := ways_come nw due
  have hkn : k ≤ n := by omega
  have OF0 := Lib.hid (h.off (r := w.heap.size + 2) (by omega))
  have HB := Lib.hid (h.grow (below_start w dl (.slice A n c) #[.int .i64 2, .int .i64 at_, .int .i64 num, .slice Aa na ca]))
  have HX := Lib.hid (BX.init w dl (.slice A n c) #[.int .i64 2, .int .i64 at_, .int .i64 num, .slice Aa na ca])
  have hr1 : ∀ j x, j < k → (ways nw p due)[j]? = some x → x.2 = 0 := by
    intro j x hj hx
    have hb : p[j]? = some (p[j]'(by omega)) := List.getElem?_eq_getElem _
    have hdj : due[j]? = some (due[j]'(by omega)) := List.getElem?_eq_getElem _
    rw [ways_get hb hdj] at hx
    injection hx with hx
    subst hx
    have := h1 j _ hj hdj
    show max 0 _ = 0
    omega
  have hr2 : ∀ x, (ways nw p due)[k]? = some x → x.2 ≠ 0 := by
    intro x hx
    have hkl : k < n := by
      have := (List.getElem?_eq_some_iff.1 hx).1
      rw [ways_len (by omega)] at this
      omega
    have hb : p[k]? = some (p[k]'(by omega)) := List.getElem?_eq_getElem _
    have hdj : due[k]? = some (due[k]'(by omega)) := List.getElem?_eq_getElem _
    rw [ways_get hb hdj] at hx
    injection hx with hx
    subst hx
    have := h2 _ hdj
    show max 0 _ ≠ 0
    omega
  have hq : ((ways nw p due).take k).map Prod.fst = p.take k := by rw [← ways_take, ways_fst (by simp; omega)]
  have HR1 := Lib.hid hr1
  have HR2 := Lib.hid hr2
  have HQ := Lib.hid hq
  have H1 := Lib.hid h1
  have H2 := Lib.hid h2
  have HD := Lib.hid hd
  have hPL := Lib.hid hpl
  have hDL := Lib.hid hdl
  clear h hr1 hr2 hq h1 h2 hd hpl hdl hk
  go_enter Try.func14, Try.ntmps14
  go_wp2_with fail
  refine (rtake_any _ dl A n c (ways nw p due) HB.out.rd HB.out.wl hn k hkn HR1.out HR2.out).mono ?_
  rintro e w1 ⟨A2, c2, A3, c3, rfl, hr2, hf2, hr3, hf3, hb1⟩
  rw [HQ.out] at hr3
  have hv1 : w.heap.size + 3 ≤ w1.heap.size := by have := hb1.size; simpa using this
  have hB1 := HB.out.doc hb1 hr2 (by rw [List.length_drop, HB.out.wl]) (fun h0 b off e => hf2 h0 b off e)
  have hO1 := fun (r : Nat) (hr : (fun r => r = w.heap.size + 2 ∨ (r < w.heap.size ∧ Off r g P D A n)) r) => (show Off r g P D A n from by rcases hr with rfl | hr; exact OF0.out; exact hr.2).doc (A2 := A2) (n2 := n - k) hf2 (by rcases hr with rfl | hr <;> simp <;> omega)
  have HX1 := Lib.hid ((HX.out.below hb1).below ((Below.refl _ _).alloc (Nat.le_refl _) (lbox dl (.slice A2 (n - k) c2))))
  have HB1 := Lib.hid (hB1.grow ((Below.refl _ _).alloc (Nat.le_refl _) (lbox dl (.slice A2 (n - k) c2))))
  have HI := Lib.hid (show PI w0 w g dl nw n P D p due (n - k) (p.drop k) (due.drop k) A2 (n - k) c2 ((ways nw p due).drop k) (.slice A n c) #[.int .i64 2, .int .i64 at_, .int .i64 num, .slice Aa na ca] w1.heap.size (fun r => r = w.heap.size + 2 ∨ (r < w.heap.size ∧ Off r g P D A n)) false false (w1.alloc (lbox dl (.slice A2 (n - k) c2))) from
    ⟨HX1.out, heap_alloc_new _ _, hv1, ⟨HB1.out, hO1⟩, trivial, Kept.all (((below_start w dl (.slice A n c) #[.int .i64 2, .int .i64 at_, .int .i64 num, .slice Aa na ca]).trans (hb1.mono (below_start w dl (.slice A n c) #[.int .i64 2, .int .i64 at_, .int .i64 num, .slice Aa na ca]).size)).alloc (by omega) (lbox dl (.slice A2 (n - k) c2))), fun r hr => by rcases hr with rfl | hr <;> omega, .inl rfl⟩)
  have HR3 := Lib.hid (hr3.stays (.alloc w1 (lbox dl (.slice A2 (n - k) c2))))
  have HF3 := Lib.hid (show ∀ b off, A3 = some ⟨b, off, none⟩ → w.heap.size + 3 ≤ b from fun b off e => by have := hf3 b off e; simpa using this)
  clear hB1 hO1 hb1 hr2 hf2 hr3 hf3
  go_wp2_with fail
  refine Free.wp_seq2 (I := fun L w' => PI w0 w g dl nw n P D p due (n - k) (p.drop k) (due.drop k) A2 (n - k) c2 ((ways nw p due).drop k) (.slice A n c) #[.int .i64 2, .int .i64 at_, .int .i64 num, .slice Aa na ca] w1.heap.size (fun r => r = w.heap.size + 2 ∨ (r < w.heap.size ∧ Off r g P D A n)) (L 2) (L 7) w' ∧ Kept (fun i => i < w.heap.size + 3) (w1.alloc (lbox dl (.slice A2 (n - k) c2))) w') (Gr := fun x y => Kept (fun i => i < w.heap.size + 3) x y) (by kernel_rfl) (by kernel_rfl) ⟨HI.out.drew, (Kept.refl _ _).drew⟩ ?_
  refine Free.Seq2.val ?_ (fun _ => Kept.refl _ _) (fun _ _ h => h) (fun a w3 L hI hp => ?_) ?_
  rotate_left
  · have e13 := hp.slotV 13 (by kernel_rfl) rfl; simp at e13
    have k0 := hI.1.vc 0
    have k1 := hI.1.vc 1
    refine ⟨Free.want_none rfl, ?_⟩
    clear hp
    go_simp
    rfl
  refine Free.Seq2.val ?_ (fun _ => Kept.refl _ _) (fun _ _ h => h) (fun a w3 L hI hp => ?_) ?_
  rotate_left
  · have e0 := hp.slotV 0 (by kernel_rfl) rfl; simp at e0
    refine ⟨Free.want_none rfl, ?_⟩
    clear hp
    go_simp
    rfl
  refine Free.Seq2.call (T := TR (w.heap.size + 3) k (p.take k)) (fun v x y h hk => h.mono _ _ _ hk) (fun a w3 L hI hp => ?_) ?_
  · have e72 := hp.backV 1 0 rfl rfl rfl rfl rfl
    have hf : L 2 = false := hp.fresh
    have hS := hI.1
    rw [hf] at hS
    obtain ⟨h1, h2⟩ := (show Both w0 g dl nw n P D p due A2 (n - k) c2 ((ways nw p due).drop k) w3 ∧ ∀ r, (fun r => r = w.heap.size + 2 ∨ (r < w.heap.size ∧ Off r g P D A n)) r → Off r g P D A2 (n - k) from hS.st)
    have hgl := hlow g (.inl rfl)
    refine ⟨Free.want_none rfl, 11, #[.pointer (some ⟨g, 0, none⟩)], ?_, ?_⟩
    · clear hp
      go_simp
    · refine (take_any w3 h1.ln hn k hkn H1.out H2.out).mono ?_
      rintro e w' ⟨A9, c9, P2, D2, rfl, ho, H, hk, aP, aD⟩
      have hk3 : Kept (fun i => i < w.heap.size + 3) w3 w' := hk.mono (fun i _ e => by omega)
      exact ⟨_, rfl, ⟨A9, c9, rfl, ho.rd (by rw [List.length_take, hPL.out]; omega) (by omega), fun b off e => by subst e; have := (World.ownsRow.lt ho b rfl).1; have := hS.bx.lt; omega⟩, hk3, by simp only [List.length_cons, List.length_nil, Nat.reduceAdd, (show Free.upd L 2 2 = true from rfl)]; exact hS.call hlow (hk.mono fun _ _ e => .inl e) H aP aD, hI.2.trans hk3 (fun _ _ h => h)⟩
  refine Free.Seq2.val ?_ (fun _ => Kept.refl _ _) (fun _ _ h => h) (fun a w3 L hI hp => ?_) ?_
  rotate_left
  · skip
    obtain ⟨A9, c9, e73, hr, _⟩ := hp.back 2 0 rfl rfl rfl rfl rfl
    have hc := hr.string (P := Try.prog) 28 9 5 Try.underlying28 Try.underlying5 Try.underlying9
    refine ⟨Free.want_none rfl, ?_⟩
    clear hp
    go_simp
    rfl
  refine Free.Seq2.val ?_ (fun _ => Kept.refl _ _) (fun _ _ h => h) (fun a w3 L hI hp => ?_) ?_
  rotate_left
  · have e14 := hp.slotV 14 (by kernel_rfl) rfl; simp at e14
    refine ⟨Free.want_none rfl, ?_⟩
    clear hp
    go_simp
    rfl
  refine Free.Seq2.val ?_ (fun _ => Kept.refl _ _) (fun _ _ h => h) (fun a w3 L hI hp => ?_) ?_
  rotate_left
  · have e75 := hp.backV 4 0 rfl rfl rfl rfl rfl
    have hc := (HR3.out.keep hI.2.size fun b off e hb => hI.2.block b hb (by have := HF3.out b off e; omega)).string (P := Try.prog) 28 9 5 Try.underlying28 Try.underlying5 Try.underlying9
    refine ⟨Free.want_none rfl, ?_⟩
    clear hp
    go_simp
    rfl
  refine Free.Seq2.val ?_ (fun _ => Kept.refl _ _) (fun _ _ h => h) (fun a w3 L hI hp => ?_) ?_
  rotate_left
  · have e74 := hp.backV 3 2 rfl rfl rfl rfl rfl; have e76 := hp.backV 5 0 rfl rfl rfl rfl rfl
    refine ⟨Free.want_none rfl, ?_⟩
    clear hp
    go_simp
    rfl
  refine Free.Seq2.skip rfl (fun _ => True) (fun _ _ _ _ => trivial) (fun a w3 L hI hp => ?_) ?_
  · have e6 := hp.slotV 6 (by kernel_rfl) rfl; simp at e6; have e71 := hp.backV 0 6 rfl rfl rfl rfl rfl
    obtain ⟨x0, y0, r0, r1, f0, f1⟩ := hI.1.bx.r
    have hst := hI.1.stored hw0
    have hk3 : Kept (fun i => i < w.heap.size + 3) w3 ((w3.setCell ⟨w.heap.size + 2, 0, none⟩ (.int .i64 dl)).setCell ⟨w.heap.size + 2, 1, none⟩ (.slice A2 (n - k) c2)) := (kept2 _ _ _ _).mono (fun i _ e => by omega)
    refine ⟨Free.want_none rfl, (w3.setCell ⟨w.heap.size + 2, 0, none⟩ (.int .i64 dl)).setCell ⟨w.heap.size + 2, 1, none⟩ (.slice A2 (n - k) c2), ?_, trivial, hk3, by simp only [List.length_cons, List.length_nil, Nat.reduceAdd, (show Free.upd L 7 7 = true from rfl)]; exact hst, hI.2.trans hk3 (fun _ _ h => h)⟩
    clear hp hst
    go_simp
  refine Free.Seq2.val ?_ (fun _ => Kept.refl _ _) (fun _ _ h => h) (fun a w3 L hI hp => ?_) ?_
  rotate_left
  · have e77 := hp.backV 6 1 rfl rfl rfl rfl rfl
    refine ⟨Free.want_none rfl, ?_⟩
    clear hp
    go_simp
    rfl
  refine Free.Seq2.done (by simp) (fun wz L hIz hLz => ?_)
  simp only [List.reverse_cons, List.reverse_nil, List.nil_append, List.cons_append, Free.All, Free.eqF, forall_eq]
  rintro xT - - -
  simp only [Free.putL, Act.put, List.setIfInBounds_toArray, List.set_cons_zero, List.set_cons_succ]
  have hst := hIz.1.st
  rw [hLz 2 (by decide)] at hst
  obtain ⟨P2, D2, hB9, hOO⟩ := (show ∃ P2 D2, Both w0 g dl nw (n - k) P2 D2 (p.drop k) (due.drop k) A2 (n - k) c2 ((ways nw p due).drop k) wz ∧ ∀ r, (fun r => r = w.heap.size + 2 ∨ (r < w.heap.size ∧ Off r g P D A n)) r → Off r g P2 D2 A2 (n - k) from hst)
  have HOO := Lib.hid hOO
  have hfin := hIz.1.fin
  rw [hLz 7 (by decide)] at hfin
  have HF := Lib.hid (show wz.heap[w.heap.size + 2]? = some (lbox dl (.slice A2 (n - k) c2)) from hfin)
  have HB9 := Lib.hid hB9
  have HKP := Lib.hid hIz.1.kp
  clear hst hfin hIz hB9 hOO
  go_wp2
  refine bodyPost_ret (results_cell2 rfl _ _ (w.heap.size + 2) _ _ _ _ rfl HF.out Try.underlying38 rfl (by kernel_rfl)) rfl ?_
  exact ⟨nw, n - k, P2, D2, p.drop k, due.drop k, A2, c2, rfl, by rw [ways_drop]; exact HB9.out, by omega, Int.le_refl _, by omega, fun d hd => HD.out d (List.mem_of_mem_drop hd), HKP.out, fun r h1 h2 => HOO.out r (.inr ⟨h1, h2⟩)⟩

set_option maxHeartbeats 2000000 in
set_option maxRecDepth 100000 in
theorem play_put (w0 w : World) {g : Nat} {dl nw : Int} {n : Nat} {P D : Value} {p : List UInt8} {due : List Int} {A : Option Addr} {c : Nat} (h : Both w0 g dl nw n P D p due A n c (ways nw p due) w)
    (at_ num : Int) (Aa : Option Addr) (na ca : Nat) (l : List UInt8) (hR : Rd w Aa na ca l) (hna : na ≤ 65536) (er : Int) (m2 : Nat) (ws2 : List (UInt8 × Int)) (n2 : Nat) (p2 : List UInt8) (due2 : List Int)
    (hdoc : ∀ ps, Both w0 g dl nw n P D p due A n c (ways nw p due) ps → Rd ps Aa na ca l → Calls Try.prog 20 #[.agg #[.int .i64 dl, .slice A n c], .slice Aa na ca] ps fun e w' => ∃ A2 c2, e = .returned (.tuple #[.agg #[.int .i64 dl, .slice A2 m2 c2], .int .i64 er]) ∧ Both w0 g dl nw n P D p due A2 m2 c2 ws2 w' ∧ (∀ r, Off r g P D A n → r < ps.heap.size → Off r g P D A2 m2) ∧ Below ps.heap.size ps w')
    (hprog : ∀ w1 A3 c3, Ln w1 w0.heap.size g dl nw n n P D p due → w0.heap.size ≤ w1.heap.size → Rd w1 A3 na c3 l → Calls Try.prog 9 #[.pointer (some ⟨g, 0, none⟩), .slice A3 na c3] w1 fun e w' => ∃ P2 D2, e = .returned (.int .i64 er) ∧ Ln w' w0.heap.size g dl nw n2 n2 P2 D2 p2 due2 ∧ Kept (LnS g P D) w1 w' ∧ Anew w1 P P2 ∧ Anew w1 D D2)
    (hm : m2 = n2) (hws : ws2 = ways nw p2 due2) (hn : n2 ≤ 65536) (hd : ∀ d ∈ due2, d ≤ nw + 64) :
    Calls Try.prog 14 #[.pointer (some ⟨g, 0, none⟩), .agg #[.int .i64 dl, .slice A n c], .agg #[.int .i64 0, .int .i64 at_, .int .i64 num, .slice Aa na ca]] w (Plays w0 g dl nw P D A n w) := by
  have hlow := h.low
  have hw0 := h.bel.size
  have hO := fun r (hr : w.heap.size ≤ r) => h.off hr
  have hbs := below_start w dl (.slice A n c) #[.int .i64 0, .int .i64 at_, .int .i64 num, .slice Aa na ca]
  have HB := Lib.hid (h.grow hbs)
  have HR := Lib.hid (hR.below hbs)
  have HS := Lib.hid ((hR.below hbs).stays (.alloc _ (.cells #[] 5)) |>.src)
  have HX := Lib.hid (BX.init w dl (.slice A n c) #[.int .i64 0, .int .i64 at_, .int .i64 num, .slice Aa na ca])
  have hll := Lib.hid hR.len
  have HOFF := Lib.hid hO
  have HDOC := Lib.hid hdoc
  have HPROG := Lib.hid hprog
  have HM := Lib.hid hm
  have HWS := Lib.hid hws
  have HD := Lib.hid hd
  clear h hdoc hprog hm hws hd hR hO hbs
  go_enter Try.func14, Try.ntmps14
  go_wp2_with ((with_reducible show wpList _ _ _ (⟨some 28, _, _, _, _, _⟩ :: _) _ _); refine wpList_app _ rfl elemB (.tmp 25) (.tmp 27) rfl rfl (own_empty _ (w.heap.size + 3) _ _ 1 (by simp) (by simp)) rfl HS.out na (by omega) (by omega) (by simp) ?_; intro A3 c3 w1 hown1 hg1 hat1; (have hb1 : Below (pstart w dl (.slice A n c) #[.int .i64 0, .int .i64 at_, .int .i64 num, .slice Aa na ca]).heap.size (pstart w dl (.slice A n c) #[.int .i64 0, .int .i64 at_, .int .i64 num, .slice Aa na ca]) w1 := ((Below.refl _ _).alloc (Nat.le_refl _) _).grown hg1 (by simp) (by intro k hk; simp [Value.ownBlock, Act.eval] at hk; simp; omega)); have HB1 := Lib.hid (HB.out.grow hb1); have HX1 := Lib.hid (HX.out.below hb1); have HR1 := Lib.hid (HR.out.below hb1); have k0 := HX1.out.c 0; have k1 := HX1.out.c 1; have k3 := HX1.out.a 3)
  rw [List.nil_append] at hown1
  have HO1 := Lib.hid (OwnB.of hown1 l rfl)
  have hbs := below_start w dl (.slice A n c) #[.int .i64 0, .int .i64 at_, .int .i64 num, .slice Aa na ca]
  have HK1 := Lib.hid (show Kept (LnS g P D) w w1 from Kept.all (hbs.trans (hb1.mono hbs.size)))
  have hs1 : w.heap.size + 3 ≤ w1.heap.size := HX1.out.lt
  clear hown1 hg1 hat1 hb1 k0 k1 k3 hbs
  refine (HDOC.out _ HB1.out HR1.out).mono ?_
  rintro e w2 ⟨A2, c2, rfl, hB2, hO2, hb2⟩
  have hbx := hb2.trans (((Below.refl _ _).alloc (Nat.le_refl _) (lbox dl (.slice A2 m2 c2))).mono hb2.size)
  have HX2 := Lib.hid (HX1.out.below hbx)
  have HB2 := Lib.hid (hB2.grow ((Below.refl _ _).alloc (Nat.le_refl _) (lbox dl (.slice A2 m2 c2))))
  have HO2 := Lib.hid (own_below HO1.out hbx)
  have HF2 := Lib.hid (fun r h1 h2 => hO2 r (HOFF.out r h1) h2)
  have HG2 := Lib.hid (fun (r : Nat) (h1 : r < w.heap.size) (h2 : Off r g P D A n) => hO2 r h2 (by omega))
  have HV2 := Lib.hid (show (w2.alloc (lbox dl (.slice A2 m2 c2))).heap[w2.heap.size]? = some (lbox dl (.slice A2 m2 c2)) from heap_alloc_new _ _)
  have hs2 : w1.heap.size ≤ w2.heap.size := hb2.size
  have HK2 := Lib.hid (HK1.out.trans (Kept.all (S := fun _ => False) hbx) (fun _ _ e => e.elim))
  clear hB2 hO2 hb2 hbx
  go_wp2_with fail
  refine (HPROG.out _ A3 c3 HB2.out.ln HB2.out.bel.size ((show OwnB _ _ _ (.slice A3 na c3) l from HO2.out).rd hll.out (by omega))).mono ?_
  rintro e w3 ⟨P2, D2, rfl, H3, k3, aP, aD⟩
  have HB3 := Lib.hid (HB2.out.line k3 H3 aP aD)
  have HX3 := Lib.hid (HX2.out.kept k3 hlow)
  have HO3 := Lib.hid (row_keep (w' := w3) HO2.out fun i hi => k3.block i (World.ownsRow.lt HO2.out i hi).2 (fun hs => by have := hlow i hs; have := (World.ownsRow.lt HO2.out i hi).1; omega))
  have HV3 := Lib.hid ((k3.block w2.heap.size (by simp) (fun hs => by have := hlow _ hs; omega)).trans HV2.out)
  have HG3 := Lib.hid (fun (r : Nat) (h1 : r < w.heap.size) (h2 : Off r g P D A n) => (HG2.out r h1 h2).line (w := w2.alloc (lbox dl (.slice A2 m2 c2))) (by simp; omega) aP aD)
  have HF3 := Lib.hid (fun r h1 h2 => (HF2.out r h1 h2).line (w := w2.alloc (lbox dl (.slice A2 m2 c2))) (by simp; omega) aP aD)
  have HK3 := Lib.hid (HK2.out.trans k3 (fun _ _ e => e))
  have hlt1 := fun i hi => (World.ownsRow.lt HO1.out i hi)
  have HLT := Lib.hid hlt1
  clear H3 k3 aP aD hlt1
  go_wp2_with fail
  go_loopw [12] (fun i wr => ∃ (k : Nat) (l' : List UInt8), k ≤ na ∧ i = .int .i64 k ∧ l'.length = na ∧ OwnB wr (w.heap.size + 3) 5 (.slice A3 na c3) l' ∧ Kept (fun i => Value.ownBlock (.slice A3 na c3) = some i) w3 wr) (fun i _ => na - (intOf i).toNat)
  case atStart => exact ⟨0, l, Nat.zero_le _, rfl, hll.out, HO3.out, Kept.refl _ _⟩
  case round =>
    obtain ⟨k, l', hk, rfl, hl', ho, hkk⟩ := hrel
    have HL' := Lib.hid hl'
    have HO := Lib.hid ho
    have HK := Lib.hid hkk
    clear hl' ho hkk
    by_cases hlt : k < na
    · obtain ⟨gO, rfl, hgB, hgl⟩ := HO.out.at_ HL'.out (by omega)
      have hc := HO.out.cell HL'.out k hlt
      have hf := HO.out.free HL'.out k
      generalize l'.getD k 0 = y at hc
      unfold bv at hc
      go_wp2_with fail
      go_roundw
      case rel =>
        refine ⟨k + 1, l'.set k (255 - y), by omega, by go_num, by rw [List.length_set]; exact HL'.out, ?_, HK.out.setCell (p := ⟨gO, k, none⟩) (.inl rfl) _⟩
        rw [inv_byte]
        exact HO.out.store HL'.out k _
      case measure => simp [intOf]; omega
    · obtain rfl : na = k := by omega
      have hB : Both w0 g dl nw n2 P2 D2 p2 due2 A2 m2 c2 ws2 wr := by
        cases hob : Value.ownBlock (.slice A3 na c3) with
        | none => exact HB3.out.grow (HK.out.below (Nat.le_refl _) (by intro i _ hs; rw [hob] at hs; cases hs))
        | some gO =>
          have hl := HLT.out gO hob
          exact HB3.out.keep1 (HF3.out gO (by omega) hl.2) (by omega) (HK.out.mono fun i _ e => by rw [hob] at e; injection e with e; exact e.symm)
      have hX : BX w dl (.slice A n c) #[.int .i64 0, .int .i64 at_, .int .i64 num, .slice Aa na ca] wr := HX3.out.keep fun i h1 h2 => HK.out.block i (by have := HX3.out.lt; omega) (fun hs => by have := (HLT.out i hs).1; omega)
      have hV : wr.heap[w2.heap.size]? = some (lbox dl (.slice A2 m2 c2)) := (HK.out.block _ (Array.getElem?_eq_some_iff.1 HV3.out).1 (fun hs => by have := (HLT.out _ hs).2; omega)).trans HV3.out
      have v0 := cell_of_cells hV 0
      have v1 := cell_of_cells hV 1
      obtain ⟨x0, y0, r0, r1, f0, f1⟩ := hX.r
      have hst := (hX.stored (.int .i64 dl) (.slice A2 m2 c2)).2
      have HST := Lib.hid hst
      have HBB := Lib.hid hB
      have HOF := Lib.hid (HF3.out (w.heap.size + 2) (by omega) (by omega))
      clear hB hX hV hst
      go_wp2
      refine bodyPost_ret (results_cell2 rfl _ _ (w.heap.size + 2) _ _ _ _ rfl HST.out Try.underlying38 rfl (by kernel_rfl)) rfl ?_
      obtain rfl := HM.out
      obtain rfl := HWS.out
      exact ⟨nw, m2, P2, D2, p2, due2, A2, c2, rfl, HBB.out.keep1 HOF.out (by omega) (kept2 _ _ _ _), hn, Int.le_refl _, by omega, HD.out, (HK3.out.trans HK.out (fun i hi e => by have := (HLT.out i e).1; omega)).trans (kept2 _ _ _ _) (fun i hi e => by omega), HG3.out⟩

end Go.Proofs.Ytgiboekjjnmnnaa
