/-
  A MESSAGE OUT OF BYTES: the program's and the document's.
-/
import Derived.Test.YtcnlgcmooegfkaaMsgGets
namespace Go.Proofs.Ytcnlgcmooegfkaa
open Go.RowKit Mg

/-- are the bytes a message's? -/
def gok (l : List UInt8) : Prop := 7 ≤ l.length ∧ l.length ≤ 54 ∧ chk (gid (l.take 6)) = 0
instance (l : List UInt8) : Decidable (gok l) := inferInstanceAs (Decidable (_ ∧ _))
def getM (l : List UInt8) : Mid := if gok l then gid (l.take 6) else mid0
def getD' (l : List UInt8) : List UInt8 := if gok l then l.drop 6 else []
def getE (l : List UInt8) : Int := if gok l then 0 else 2
abbrev GetP (w : World) (l : List UInt8) (e : Ending) (w' : World) : Prop := ∃ A m k, e = .returned (.tuple #[msgv (getM l) (.slice A m k), .int .i64 (getE l)]) ∧ m = (getD' l).length ∧ Sl w' w.heap.size 5 (.slice A m k) m (bs (getD' l)) ∧ Below w.heap.size w w'
theorem GetP.bad {w w' : World} {l : List UInt8} (h : ¬ gok l) (hb : Below w.heap.size w w') : GetP w l (.returned (.tuple #[msgv mid0 (.slice none 0 0), .int .i64 2])) w' := by
  refine ⟨none, 0, 0, ?_, ?_, ?_, hb⟩
  · rw [getM, getE, if_neg h, if_neg h]
  · rw [getD', if_neg h]; rfl
  · rw [getD', if_neg h]; exact Sl.nil _ _ _

set_option maxRecDepth 100000 in
set_option maxHeartbeats 2000000 in
theorem get_short (A : Option Addr) (n c : Nat) (l : List UInt8) (w : World) (hl : l.length = n) (hn : n < 6) : Calls Try.prog 34 #[.slice A n c] w (GetP w l) := by
  have hz := heap_alloc_new w (.cells #[.int .i64 0, .int .i64 0, .int .i64 0, .int .i64 0, .slice none 0 0] 54); have HP := Lib.hid (fun W' => GetP.bad (w := w) (w' := W') (l := l) (fun h => by have := h.1; omega)); have b1 : (n : Int) < 6 := by omega
  have r0 := cell_of_cells hz 0; have r1 := cell_of_cells hz 1; have r2 := cell_of_cells hz 2; have r3 := cell_of_cells hz 3; have r4 := cell_of_cells hz 4; have f0 := frozen_of_row _ w.heap.size 0 _ _ hz; have f1 := frozen_of_row _ w.heap.size 1 _ _ hz; have f2 := frozen_of_row _ w.heap.size 2 _ _ hz; have f3 := frozen_of_row _ w.heap.size 3 _ _ hz; have f4 := frozen_of_row _ w.heap.size 4 _ _ hz; have HST := Lib.hid hz; clear hz hl hn
  go_enter Try.func34, Try.ntmps34
  go_wp2
  refine bodyPost_ret (results_cell2 rfl _ _ w.heap.size _ _ _ _ rfl HST.out Try.underlying54 rfl (by kernel_rfl)) rfl ?_; exact HP.out _ ((Below.refl w.heap.size w).alloc (Nat.le_refl _) _)

set_option maxRecDepth 100000 in
set_option maxHeartbeats 4000000 in
theorem get_long (A : Option Addr) (n c : Nat) (l : List UInt8) (w : World) (hR : Rd w A n c l) (hn : 6 ≤ n) (hN : n ≤ 140737488351232) : Calls Try.prog 34 #[.slice A n c] w (GetP w l) := by
  have HG := Lib.hid (fun W (h : Below w.heap.size w W) => getid_any A 6 c (l.take 6) W ((hR.below h).take hn)); have hl := hR.len; have hcap := hR.cap; obtain ⟨b, off, rfl, hbl, _⟩ := hR.at_ (by omega); have hd := hR.drop hn; obtain ⟨B6, hB6⟩ : ∃ B, B = (if c = 6 then some (⟨b, off, none⟩ : Addr) else some ⟨b, off + 6, none⟩) := ⟨_, rfl⟩; have hd6 : Rd w B6 (n - 6) (c - 6) (l.drop 6) := by
    rw [hB6]
    simpa [Addr.add] using hd
  have hcase : (gok l ∧ getIE (l.take 6) = 0 ∧ chkM (getI (l.take 6)) (n - 6) = 0 ∧ getI (l.take 6) = gid (l.take 6)) ∨ (¬ gok l ∧ getIE (l.take 6) = 0 ∧ chkM (getI (l.take 6)) (n - 6) ≠ 0) ∨ (¬ gok l ∧ getIE (l.take 6) = 2) := by
    have h6 : (l.take 6).length = 6 := by simp; omega
    by_cases h : chk (gid (l.take 6)) = 0
    · have e1 : getIE (l.take 6) = 0 := if_pos ⟨h6, h⟩; have e2 : getI (l.take 6) = gid (l.take 6) := if_pos ⟨h6, h⟩
      by_cases h7 : 7 ≤ n ∧ n ≤ 54
      · refine .inl ⟨⟨by omega, by omega, h⟩, e1, ?_, e2⟩; rw [e2, chkM, if_pos h, if_neg (by omega), if_neg (by omega)]
      · refine .inr (.inl ⟨fun k => h7 ⟨by have := k.1; omega, by have := k.2.1; omega⟩, e1, ?_⟩); rw [e2, chkM, if_pos h]
        split
        · decide
        · rw [if_pos (by omega)]; decide
    · exact .inr (.inr ⟨fun k => h k.2.2, if_neg (fun k => h k.2)⟩)
  have HP := Lib.hid (fun W' => GetP.bad (w := w) (w' := W') (l := l)); have HC := Lib.hid (fun A2 c2 W => checkm_any (getI (l.take 6)) A2 (n - 6) c2 W); have HCASE := Lib.hid hcase; have HD6 := Lib.hid hd6; have b1 : (6 : Int) ≤ (n : Int) := by omega
  have HB6 := Lib.hid hB6; have HLN := Lib.hid hl; clear hcase hd hd6 hR hB6 hl; obtain ⟨G, hG⟩ : ∃ G, G = getI (l.take 6) := ⟨_, rfl⟩; rw [← hG] at HG HC HCASE; obtain ⟨GE, hGE⟩ : ∃ G, G = getIE (l.take 6) := ⟨_, rfl⟩; rw [← hGE] at HG HCASE; clear hG hGE; obtain ⟨io, id, ie, ic⟩ := G; unfold idv at HG; unfold msgv at HC
  go_enter Try.func34, Try.ntmps34
  go_wp2_with fail
  have hb1 := (Below.refl w.heap.size w).alloc (Nat.le_refl _) (.cells #[.int .i64 0, .int .i64 0, .int .i64 0, .int .i64 0, .slice none 0 0] 54); refine (HG.out _ hb1).mono ?_; rintro e w1 ⟨rfl, hb2⟩; have hs1 : w.heap.size < w1.heap.size := by have := hb2.size; simp at this; omega
  obtain ⟨w2, hw2⟩ : ∃ w2, w2 = w1.alloc (.cells #[.int .i64 io, .int .i64 id, .int .i64 ie, .int .i64 ic] 52) := ⟨_, rfl⟩; have hn2 : w2.heap[w1.heap.size]? = some (.cells #[.int .i64 io, .int .i64 id, .int .i64 ie, .int .i64 ic] 52) := by rw [hw2]; exact heap_alloc_new _ _
  have hb12 : Below w1.heap.size w1 w2 := by rw [hw2]; exact (Below.refl _ _).alloc (Nat.le_refl _) _
  have hz1 : w1.heap[w.heap.size]? = some (.cells #[.int .i64 0, .int .i64 0, .int .i64 0, .int .i64 0, .slice none 0 0] 54) := (hb2.block w.heap.size (by simp)).trans (heap_alloc_new w _); have hz2 : w2.heap[w.heap.size]? = some (.cells #[.int .i64 0, .int .i64 0, .int .i64 0, .int .i64 0, .slice none 0 0] 54) := (hb12.block _ hs1).trans hz1; have hbw2 := (hb1.trans (hb2.mono hb1.size)).trans (hb12.mono (by omega)); have hs2 : w1.heap.size < w2.heap.size := (Array.getElem?_eq_some_iff.1 hn2).1; have r0 := cell_of_cells hz1 0; have r1 := cell_of_cells hz1 1; have r2 := cell_of_cells hz1 2; have r3 := cell_of_cells hz1 3; have r4 := cell_of_cells hz1 4; have f0 := frozen_of_row w1 w.heap.size 0 _ _ hz1; have f1 := frozen_of_row w1 w.heap.size 1 _ _ hz1; have f2 := frozen_of_row w1 w.heap.size 2 _ _ hz1; have f3 := frozen_of_row w1 w.heap.size 3 _ _ hz1; have f4 := frozen_of_row w1 w.heap.size 4 _ _ hz1; have HZ2 := Lib.hid hz2; have HN2 := Lib.hid hn2; have HB2 := Lib.hid hbw2; have hsw2 : w.heap.size ≤ w2.heap.size := by omega
  have HZ1 := Lib.hid hz1; have HB1 := Lib.hid (hb1.trans (hb2.mono hb1.size)); clear hb1 hb2 hb12 hz1 hz2 hn2 hbw2; have hcase2 : (GE = 0 ∧ ((gok l ∧ chkM ⟨io, id, ie, ic⟩ (n - 6) = 0 ∧ (⟨io, id, ie, ic⟩ : Mid) = gid (l.take 6)) ∨ (¬ gok l ∧ chkM ⟨io, id, ie, ic⟩ (n - 6) ≠ 0))) ∨ (¬ gok l ∧ GE = 2) := by
    rcases HCASE.out with ⟨h1, h2, h3, h4⟩ | ⟨h1, h2, h3⟩ | ⟨h1, h2⟩
    · exact .inl ⟨h2, .inl ⟨h1, h3, h4⟩⟩
    · exact .inl ⟨h2, .inr ⟨h1, h3⟩⟩
    · exact .inr ⟨h1, h2⟩
  clear HCASE
  rcases hcase2 with ⟨rfl, hc⟩ | ⟨h0, rfl⟩
  · have HC2 := Lib.hid hc; clear hc r0 r1 r2 r3 r4 f0 f1 f2 f3 f4
    go_wp2_with fail
    rw [← hw2]; clear hw2; have HDZ := Lib.hid (HD6.out.below HB2.out); refine Free.wp_seq4 (I := fun a L w' => CallI w2.heap.size 6 7 (GLit w2.heap.size 5 54 (n - 6) (bs (l.drop 6)) ([.int .i64 io, .int .i64 id, .int .i64 ie, .int .i64 ic] : List Value)) w2 a L w') (Gr := fun _ x y => GrN w2.heap.size 54 x y) (by kernel_rfl) (by kernel_rfl) ⟨(Below.refl _ _).drew, fun h => by cases h⟩ ?_; refine Free.Seq4.val ?_ (fun _ => GrN.refl _ _ _) (fun a L w v h => h.other (by decide) (by simp)) (fun a w3 L hI hp => ?_) ?_; rotate_left
    · have e4 := hp.sl 4; simp at e4; have k0 := (hI.1.cell (p := ⟨w1.heap.size, 0, none⟩) hs2).trans (cell_of_cells HN2.out 0); have k1 := (hI.1.cell (p := ⟨w1.heap.size, 1, none⟩) hs2).trans (cell_of_cells HN2.out 1); have k2 := (hI.1.cell (p := ⟨w1.heap.size, 2, none⟩) hs2).trans (cell_of_cells HN2.out 2); have k3 := (hI.1.cell (p := ⟨w1.heap.size, 3, none⟩) hs2).trans (cell_of_cells HN2.out 3); refine ⟨Free.wn, ?_⟩; clear hp; go_simp; rfl
    refine Free.Seq4.op (T := TEmp w2.heap.size 5) (fun j hj _ v x y h hg => TEmp.grN (by decide) h hg) (fun a w3 L hI hp => ?_) ?_
    · skip
      have u : Free.upd L 1 7 = false := (upd_ne (by decide)).trans (hp.up 7 40 (by kernel_rfl)); have hb2 : Below w3.heap.size w3 (w3.alloc (.cells #[] 5)) := (Below.refl _ _).alloc (Nat.le_refl _) _; refine ⟨Free.wn, .slice (some ⟨w3.heap.size, 0, none⟩) 0 0, w3.alloc (.cells #[] 5), ?_, ⟨w3.heap.size, #[], rfl, hI.1.size, heap_alloc_new _ _⟩, GrN.below hb2, hI.ahead u (hb2.mono hI.1.size)⟩; clear hp hI hb2; go_simp
    refine Free.Seq4.val ?_ (fun _ => GrN.refl _ _ _) (fun a L w v h => h.other (by decide) (by simp)) (fun a w3 L hI hp => ?_) ?_; rotate_left
    · have e0 := hp.sl 0; simp at e0; refine ⟨Free.wn, ?_⟩; clear hp; go_simp; rfl
    refine Free.Seq4.val ?_ (fun _ => GrN.refl _ _ _) (fun a L w v h => h.other (by decide) (by simp)) (fun a w3 L hI hp => ?_) ?_; rotate_left
    · have e23 := hp.b 2 0; refine ⟨Free.wn, ?_⟩; clear hp; go_simp; rw [← HB6.out]
    refine Free.Seq4.op (T := TSl w2.heap.size 5 (n - 6) (bs (l.drop 6))) (fun j hj _ v x y h hg => TSl.grN (by decide) h hg) (fun a w3 L hI hp => ?_) ?_
    · have e24 := hp.b 3 0; have u : Free.upd L 4 7 = false := (upd_ne (by decide)).trans (hp.up 7 40 (by kernel_rfl)); obtain ⟨b5, cur5, eE, hb5, hc5⟩ := hp.back 1 2 rfl rfl rfl rfl rfl; obtain ⟨A9, c9, w9, hrun, h9, hb9⟩ := run_appl w3 elemB _ hc5 hb5 (A := B6) (m := (n - 6)) (c - 6) ((HDZ.out.below hI.1).src) (by omega); refine ⟨Free.wn, .slice A9 (n - 6) c9, w9, ?_, ⟨A9, c9, rfl, h9⟩, GrN.below hb9, hI.ahead u (hb9.mono hI.1.size)⟩; exact Free.exec_app (.tmp 22) (.tmp 24) rfl (Free.eval_tmp eE) (Free.eval_tmp e24) hrun
    refine Free.Seq4.op (T := TAgg w2.heap.size 5 (n - 6) (bs (l.drop 6)) ([.int .i64 io, .int .i64 id, .int .i64 ie, .int .i64 ic] : List Value)) (fun j hj _ v x y h hg => TAgg.grN (by decide) h hg) (fun a w3 L hI hp => ?_) ?_
    · have e21 := hp.b 0 4; obtain ⟨A9, c9, eA, h9⟩ := hp.back 4 0 rfl rfl rfl rfl rfl; refine ⟨Free.wn, .agg (([.int .i64 io, .int .i64 id, .int .i64 ie, .int .i64 ic] : List Value) ++ [Value.slice A9 (n - 6) c9]).toArray, w3, ?_, ⟨A9, c9, rfl, h9⟩, GrN.refl _ _ _, hI.other (by decide) (by simp)⟩; clear hp hI h9; go_simp
    refine Free.Seq4.op (T := TPtr w2.heap.size 54 5) (fun j hj _ v x y h hg => TPtr.grN h hg) (fun a w3 L hI hp => ?_) ?_
    · skip
      have u : Free.upd L 6 7 = false := (upd_ne (by decide)).trans (hp.up 7 40 (by kernel_rfl)); have hb2 : Below w3.heap.size w3 (w3.alloc (.cells #[.int .i64 0, .int .i64 0, .int .i64 0, .int .i64 0, .slice none 0 0] 54)) := (Below.refl _ _).alloc (Nat.le_refl _) _; refine ⟨Free.wn, .pointer (some ⟨w3.heap.size, 0, none⟩), w3.alloc (.cells #[.int .i64 0, .int .i64 0, .int .i64 0, .int .i64 0, .slice none 0 0] 54), ?_, ⟨w3.heap.size, ([.int .i64 0, .int .i64 0, .int .i64 0, .int .i64 0, .slice none 0 0] : List Value), rfl, hI.1.size, heap_alloc_new _ _, rfl, (nob_int _ (nob_int _ (nob_int _ (nob_int _ (nob_slice _ _ _ nob_nil)))))⟩, GrN.below hb2, hI.ahead u (hb2.mono hI.1.size)⟩; clear hp hI hb2; go_simp
    refine Free.Seq4.skip rfl (fun _ => True) (fun _ _ _ _ _ _ _ => trivial) (fun a w3 L hI hp => ?_) ?_
    · skip
      obtain ⟨A2, c2, eG, h2⟩ := hp.back 5 1 rfl rfl rfl rfl rfl; obtain ⟨q, us, eP, hq, hus, hl, hnb⟩ := hp.back 6 0 rfl rfl rfl rfl rfl; obtain ⟨u0, u1, u2, u3, u4, rfl⟩ := lit5 hl; have r0 := cell_of_cells hus 0; have f0 := frozen_of_row w3 q 0 _ _ hus; have r1 := cell_of_cells hus 1; have f1 := frozen_of_row w3 q 1 _ _ hus; have r2 := cell_of_cells hus 2; have f2 := frozen_of_row w3 q 2 _ _ hus; have r3 := cell_of_cells hus 3; have f3 := frozen_of_row w3 q 3 _ _ hus; have r4 := cell_of_cells hus 4; have f4 := frozen_of_row w3 q 4 _ _ hus; obtain ⟨hst, hgr, hbe⟩ := lit_store (vs := ([.int .i64 io, .int .i64 id, .int .i64 ie, .int .i64 ic] : List Value) ++ [Value.slice A2 (n - 6) c2]) hq hq hus rfl hnb ((nob_int _ (nob_int _ (nob_int _ (nob_int _ (nob_slice _ _ _ nob_nil)))))) hI.1; refine ⟨Free.wn, sets q 0 (([.int .i64 io, .int .i64 id, .int .i64 ie, .int .i64 ic] : List Value) ++ [Value.slice A2 (n - 6) c2]) w3, ?_, trivial, hgr, ⟨hbe, fun _ => ⟨q, by simpa using eP, hq, A2, c2, hst, h2.grN (by decide) hgr⟩⟩⟩; clear hp hI h2 hst hbe hgr hus hnb; simp only [sets, List.cons_append, List.nil_append]; go_simp
    refine Free.Seq4.done (by simp) (fun wz L hLz => ?_); simp only [List.reverse_cons, List.reverse_nil, List.nil_append, List.cons_append, Free.All, Free.eqF, forall_eq]
    skip
    simp only [Free.putL, Act.put, List.setIfInBounds_toArray, List.set_cons_zero, List.set_cons_succ]; rintro x22 - x25 - x26 - x6 - xS - hIz; have hbz := hIz.1; obtain ⟨qb, e6, hqb, A2, c2, hq2, hs2'⟩ := hIz.2 (hLz 7 (by decide)); have hv6 : x6 = .pointer (some ⟨qb, 0, none⟩) := e6; clear hIz hLz e6; subst hv6; have hqz : qb < wz.heap.size := (Array.getElem?_eq_some_iff.1 hq2).1; have hq2' : wz.heap[qb]? = some (.cells #[.int .i64 io, .int .i64 id, .int .i64 ie, .int .i64 ic, .slice A2 (n - 6) c2] 54 (0, 0)) := hq2; have k0 := cell_of_cells hq2' 0; have k1 := cell_of_cells hq2' 1; have k2 := cell_of_cells hq2' 2; have k3 := cell_of_cells hq2' 3; have k4 := cell_of_cells hq2' 4; have HQ2 := Lib.hid hq2'; have HS2 := Lib.hid hs2'; have HZZ := Lib.hid ((hbz.block w.heap.size (by omega)).trans HZ2.out); have HBZ := Lib.hid (HB2.out.trans (hbz.mono hsw2)); have hwz : w.heap.size < wz.heap.size := by have := hbz.size; omega
    clear hq2 hq2' hs2' hbz
    go_wp2_with fail
    refine (HC.out A2 c2 _).mono ?_; rintro e w4 ⟨rfl, hb4⟩; have hz4 := (hb4.block w.heap.size hwz).trans HZZ.out; have hq4 := (hb4.block qb hqz).trans HQ2.out; have HB4 := Lib.hid (HBZ.out.trans (hb4.mono (by omega))); have HS4 := Lib.hid (HS2.out.kept fun k hk => hb4.block k (HS2.out.lt k hk).2); clear k0 k1 k2 k3 k4 hb4; have i0 := cell_of_cells hq4 0; have i1 := cell_of_cells hq4 1; have i2 := cell_of_cells hq4 2; have i3 := cell_of_cells hq4 3; have i4 := cell_of_cells hq4 4; have r0 := cell_of_cells hz4 0; have r1 := cell_of_cells hz4 1; have r2 := cell_of_cells hz4 2; have r3 := cell_of_cells hz4 3; have r4 := cell_of_cells hz4 4; have f0 := frozen_of_row w4 w.heap.size 0 _ _ hz4; have f1 := frozen_of_row w4 w.heap.size 1 _ _ hz4; have f2 := frozen_of_row w4 w.heap.size 2 _ _ hz4; have f3 := frozen_of_row w4 w.heap.size 3 _ _ hz4; have f4 := frozen_of_row w4 w.heap.size 4 _ _ hz4; have HZ4 := Lib.hid hz4; clear hz4 hq4
    rcases HC2.out with ⟨h0, h1, h2⟩ | ⟨h0, h1⟩
    · rw [h1]; have hst := sets_heap0 (vs := [.int .i64 io, .int .i64 id, .int .i64 ie, .int .i64 ic, .slice A2 (n - 6) c2]) (us := [.int .i64 0, .int .i64 0, .int .i64 0, .int .i64 0, .slice none 0 0]) HZ4.out rfl; have hbe := sets_below (Nat.le_refl w.heap.size) [.int .i64 io, .int .i64 id, .int .i64 ie, .int .i64 ic, .slice A2 (n - 6) c2] 0 w4 HB4.out; have hsl : Sl (sets w.heap.size 0 [.int .i64 io, .int .i64 id, .int .i64 ie, .int .i64 ic, .slice A2 (n - 6) c2] w4) w.heap.size 5 (.slice A2 (n - 6) c2) (n - 6) (bs (l.drop 6)) :=
        (HS4.out.kept fun k hk => sets_other _ _ _ _ (by have := (HS4.out.lt k hk).1; omega)).base fun k hk => by have := (HS4.out.lt k hk).1; omega
      simp only [sets, Nat.zero_add, Nat.reduceAdd] at hst hbe hsl; have HST := Lib.hid hst; have HBE := Lib.hid hbe; have HSL := Lib.hid hsl; have hm : getM l = ⟨io, id, ie, ic⟩ := by rw [getM, if_pos h0, h2]
      have hd : getD' l = l.drop 6 := if_pos h0; have he : getE l = 0 := if_pos h0; have HMD := Lib.hid (And.intro hm (And.intro hd he)); clear hst hbe hsl hm hd he HC2 h0 h1 h2
      go_wp2
      refine bodyPost_ret (results_cell2 rfl _ _ w.heap.size _ _ _ _ rfl HST.out Try.underlying54 rfl (by kernel_rfl)) rfl ?_; obtain ⟨hm, hd, he⟩ := HMD.out; refine ⟨A2, n - 6, c2, ?_, ?_, ?_, HBE.out⟩
      · rw [hm, he]; rfl
      · rw [hd, List.length_drop, HLN.out]
      · rw [hd]; exact HSL.out
    · have t0 : (chkM ⟨io, id, ie, ic⟩ (n - 6) != 0) = true := by simpa using h1
      have hst := sets_heap0 (vs := [.int .i64 0, .int .i64 0, .int .i64 0, .int .i64 0, .slice none 0 0]) (us := [.int .i64 0, .int .i64 0, .int .i64 0, .int .i64 0, .slice none 0 0]) HZ4.out rfl; have hbe := sets_below (Nat.le_refl w.heap.size) [.int .i64 0, .int .i64 0, .int .i64 0, .int .i64 0, .slice none 0 0] 0 w4 HB4.out; simp only [sets, Nat.zero_add, Nat.reduceAdd] at hst hbe; have HST := Lib.hid hst; have HBE := Lib.hid hbe; have HP2 := Lib.hid (fun W' => HP.out W' h0); clear hst hbe HC2 h0 h1
      go_wp2
      refine bodyPost_ret (results_cell2 rfl _ _ w.heap.size _ _ _ _ rfl HST.out Try.underlying54 rfl (by kernel_rfl)) rfl ?_; exact HP2.out _ HBE.out
  · have hst := sets_heap0 (vs := [.int .i64 0, .int .i64 0, .int .i64 0, .int .i64 0, .slice none 0 0]) (us := [.int .i64 0, .int .i64 0, .int .i64 0, .int .i64 0, .slice none 0 0]) HZ1.out rfl; have hbe := (sets_below (Nat.le_refl w.heap.size) [.int .i64 0, .int .i64 0, .int .i64 0, .int .i64 0, .slice none 0 0] 0 w1 HB1.out).alloc (by rw [sets_size]; omega) (.cells #[.int .i64 io, .int .i64 id, .int .i64 ie, .int .i64 ic] 52); have hst := (heap_alloc_old _ (.cells #[.int .i64 io, .int .i64 id, .int .i64 ie, .int .i64 ic] 52) (by rw [sets_size]; exact hs1)).trans hst; simp only [sets, Nat.zero_add, Nat.reduceAdd] at hst hbe; have HST := Lib.hid hst; have HBE := Lib.hid hbe; have HP2 := Lib.hid (fun W' => HP.out W' h0); clear hst hbe h0; clear hw2
    go_wp2
    refine bodyPost_ret (results_cell2 rfl _ _ w.heap.size _ _ _ _ rfl HST.out Try.underlying54 rfl (by kernel_rfl)) rfl ?_; exact HP2.out _ HBE.out
end Go.Proofs.Ytcnlgcmooegfkaa
