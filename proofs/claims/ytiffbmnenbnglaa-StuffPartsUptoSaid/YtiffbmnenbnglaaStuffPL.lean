/-
  THE WALK OF StuffParts.
-/
import Derived.Test.YtiffbmnenbnglaaStuffPts
import Derived.Test.YtiffbmnenbnglaaStuffLaws
import Derived.Test.YtiffbmnenbnglaaCopy
namespace Go.Proofs.Ytiffbmnenbnglaa
open Go.RowKit
attribute [local go_sem] Oper.semAt_some

theorem results_cell1 {P : Program} {fn : Func} {p : Tmp} {ty : TypeId} (h : fn.results = #[.cell p ty]) (tmps : Array Value) (w : World) (a : Addr) (v : Value) (hp : tmps.getD p undef = .pointer (some a)) (hi : ∀ w, (isAgg ty).run P w = .ok false w) (hc : w.cell? a = some v) :
    (results fn tmps).run P w = .ok v w := by
  have hp' : tmps[p]?.getD undef = .pointer (some a) := by simpa using hp
  simp [results, h, hp', asAddr, loadVar, hi, go_sem, hc]

/-- between two rounds: what lay ahead of the loop lies as it lay, but for the count -/
def PI (W0 : World) (D bn : Nat) (z : Int) (k : Nat) (W : World) : Prop := Same (fun j => j < D ∧ j ≠ bn) W0 W ∧ Bx W bn 3 (.int .i64 k) ∧ ∀ j : Nat, j < k → z ≠ j
/-- a round has been left by the break -/
def PB (W0 : World) (D bn : Nat) (z : Int) (_ : Nat) (W : World) : Prop := Same (fun j => j < D ∧ j ≠ bn) W0 W ∧ ∃ j : Nat, Bx W bn 3 (.int .i64 j) ∧ z = j

set_option maxRecDepth 100000 in
set_option maxHeartbeats 2000000 in
theorem stuffparts_law (A : Option Addr) (n c : Nat) (l : List UInt8) (z : Int) (w : World) (hR : Rd w A n c l) (hn : n ≤ 1048576) :
    Calls Try.prog 8 #[.slice A n c, .int .i64 z] w fun e w' => e = .returned (.bool true) ∧ Below w.heap.size w w' := by
  have hpl := parts_len l
  have hll := hR.len
  have hpb := parts_bound l
  have HR := Lib.hid hR
  have HL := Lib.hid hll
  have HPL := Lib.hid hpl
  have HPB := Lib.hid hpb
  clear hR hll hpl hpb
  refine calls_of_marks Try.func8 rfl ?_
  simp only [Try.ntmps8, List.size_toArray, List.length_cons, List.length_nil, Nat.reduceAdd, Nat.reduceSub, Array.replicate_succ, Array.replicate_zero, List.push_toArray, List.append_toArray, List.nil_append, List.cons_append]
  go_upto_region 1 with fail
  obtain ⟨w0, hw0⟩ : ∃ w0, w0 = (w.alloc (.cells #[.int .i64 z] 3)).alloc (.cells #[.bool false] 4) := ⟨_, rfl⟩
  rw [← hw0]
  have z0 : w0.heap.size = w.heap.size + 2 := by rw [hw0]; simp
  have hBs : Bx w0 w.heap.size 3 (.int .i64 z) := by
    rw [hw0]; exact (Bx.new w _ _).same (S := fun _ => True) ((Same.refl _ _).alloc _) trivial
  have hBr : Bx w0 (w.heap.size + 1) 4 (.bool false) := by
    rw [hw0]; have := Bx.new (w.alloc (.cells #[.int .i64 z] 3)) 4 (.bool false); rwa [World.size_alloc] at this
  have hb0 : Below w.heap.size w w0 := by rw [hw0]; exact ((Below.refl _ _).alloc (Nat.le_refl _) _).alloc (by simp) _
  have HR0 := Lib.hid (HR.out.below hb0)
  have HBs := Lib.hid hBs
  have HBr := Lib.hid hBr
  have HB0 := Lib.hid hb0
  have Z0 := Lib.hid z0
  clear hw0 hBs hBr hb0 z0
  go_wp2_with (first
    | ((with_reducible show wpList _ _ _ (⟨some 16, _, _, _, _, _⟩ :: _) _ _); refine wpList_app _ rfl elemB (.tmp 14) (.tmp 15) rfl rfl (own_empty w0 w0.heap.size _ _ 1 rfl (Nat.le_refl _)) rfl ((HR0.out.stays (Stays.alloc w0 _)).src) n (by omega) (by omega) (by simp) ?_; intro A1 c1 w1 hown1 hg1 hat1; have HO1 := Lib.hid hown1; have HG1 := Lib.hid hg1; have HAT1 := Lib.hid hat1; clear hown1 hg1 hat1))
  have hb1 : Below w0.heap.size w0 w1 := below_app' ((Below.refl w0.heap.size w0).alloc (Nat.le_refl _) _) (own_empty w0 w0.heap.size _ _ 1 rfl (Nat.le_refl _)) HG1.out (Nat.le_refl _) (by simp)
  obtain ⟨g, hA1, hg0, hg1⟩ : ∃ g, A1 = some ⟨g, 0, none⟩ ∧ w0.heap.size ≤ g ∧ g < w1.heap.size := by
    rcases HO1.out.2 with ⟨hv, _⟩ | ⟨g, cap, cur, hv, hB, hh, _⟩
    · exfalso
      have := HAT1.out
      rw [hv] at this
      rcases this with e | e <;> cases e
    · injection hv with hv
      exact ⟨g, hv, hB, (Array.getElem?_eq_some_iff.1 hh).1⟩
  subst hA1
  have hr1 : Rd w1 (some ⟨g, 0, none⟩) n c1 l := (OwnB.of HO1.out l (by simp)).rd HL.out (by omega)
  have hown : w1.ownsRow w0.heap.size 5 1 (.slice (some ⟨g, 0, none⟩) n c1) n (bs l) := by simpa using HO1.out
  have hcall := parts_any (some ⟨g, 0, none⟩) n c1 l w1 hr1 (.inr ⟨g, 0, hg1, rfl⟩) hn (fun q hq => by have := HPB.out q hq; have := HL.out; omega)
  have HO := Lib.hid hown
  have HB1 := Lib.hid hb1
  clear HO1 HG1 HAT1 hr1 hown hb1
  refine hcall.mono ?_
  clear hcall
  rintro e w2 ⟨po, rfl, hseq, hb2⟩
  have HSEQ := Lib.hid hseq
  have HB2 := Lib.hid hb2
  clear hseq hb2
  have kn : ∀ w, (binOp .eql 33 (.func (.func 20) #[] #[.pointer (some ⟨po, 0, none⟩)]) .nilFunc).run Try.prog w = .ok (.bool false) w := fun _ => by kernel_rfl
  go_wp2_with fail
  have hz2 := HB2.out.size
  have hown2 := own_below HO.out HB2.out
  have HO2 := Lib.hid hown2
  clear hown2
  go_loopw [7] (fun i wr => ∃ k : Nat, i = .int .i64 k ∧ k ≤ n ∧ Hid (Same (fun j => j ≠ g) w2 wr ∧ ∃ q, OwnB wr w0.heap.size 5 (.slice (some ⟨g, 0, none⟩) n c1) q ∧ q.length = n)) (fun i _ => n - (intOf i).toNat)
  case atStart => exact ⟨0, rfl, Nat.zero_le _, Same.refl _ _, l, OwnB.of HO2.out l rfl, HL.out⟩
  case round =>
    obtain ⟨k, rfl, hk, hs, q, hq, hql⟩ := hrel
    by_cases hlt : k < n
    · have bc := hq.cell hql k hlt
      have bf := hq.free hql k
      have H1 := Lib.hid (hs.setCell (p := ⟨g, k, none⟩) (by simp) (.int .u8 126))
      have H2 : Hid (OwnB (wr.setCell ⟨g, k, none⟩ (.int .u8 126)) w0.heap.size 5 (.slice (some ⟨g, 0, none⟩) n c1) (q.set k 126)) := hq.store hql k 126
      have H3 : Hid ((q.set k 126).length = n) := by show _ = _; rw [List.length_set]; exact hql
      clear hs hq hql
      go_wp2_with fail
      go_roundw
      case rel => exact ⟨k + 1, by go_num, hlt, H1.out, _, H2.out, H3.out⟩
      case measure => simp [intOf]; omega
    · obtain rfl : n = k := by omega
      have HS := Lib.hid hs
      clear hs hq hql kn
      have hbw : Below w.heap.size w wr := by
        have z0 := Z0.out
        exact ((HB0.out.trans (HB1.out.mono (by omega))).trans (HB2.out.mono (by omega))).trans (HS.out.below (by omega) (by intro j hj; omega))
      have HBW := Lib.hid hbw
      have hcall := rparts_any A n c l wr (HR.out.below hbw) hn
      obtain ⟨xs, hxs⟩ : ∃ xs, xs = parts l := ⟨_, rfl⟩
      rw [← hxs] at hcall
      have HX := Lib.hid hxs
      clear hbw hxs
      go_wp2_with fail
      refine hcall.mono ?_
      clear hcall
      rintro e w3 ⟨Aw, m, cw, rfl, hm, hlst, hb3⟩
      have HM := Lib.hid hm
      have HLS := Lib.hid hlst
      have HB3 := Lib.hid hb3
      clear hm hlst hb3
      have hz3 := HB3.out.size
      have hs0 : Same (fun j => j ≠ g ∧ j < w0.heap.size) w0 w3 :=
        (((Same.of_below HB1.out fun _ h _ => h).trans (Same.of_below HB2.out fun _ h _ => h)).trans (HS.out.mono fun j _ h => h.1)).trans (Same.of_below HB3.out fun _ h _ => h)
      go_wp2_with fail
      obtain ⟨W0, hW0⟩ : ∃ W0, W0 = (w3.alloc (.cells #[.slice Aw m cw] 35)).alloc (.cells #[.int .i64 0] 3) := ⟨_, rfl⟩
      rw [← hW0]
      have s30 : ∀ S, Same S w3 W0 := fun S => by rw [hW0]; exact ((Same.refl S _).alloc _).alloc _
      have zW : W0.heap.size = w3.heap.size + 2 := by rw [hW0]; simp
      have z0 := Z0.out
      have z1 := HB1.out.size
      have zs := HS.out.size
      have hS0 := hs0.trans (s30 _)
      have hbs : Bx W0 w.heap.size 3 (.int .i64 z) := HBs.out.same hS0 ⟨by omega, by omega⟩
      have hbr : Bx W0 (w.heap.size + 1) 4 (.bool false) := HBr.out.same hS0 ⟨by omega, by omega⟩
      have hbw : Bx W0 w3.heap.size 35 (.slice Aw m cw) := by
        rw [hW0]; exact (Bx.new w3 _ _).same (S := fun _ => True) ((Same.refl _ _).alloc _) trivial
      have hbn : Bx W0 (w3.heap.size + 1) 3 (.int .i64 0) := by
        rw [hW0]; have := Bx.new (w3.alloc (.cells #[.slice Aw m cw] 35)) 3 (.int .i64 0); rwa [World.size_alloc] at this
      have hls : Lst W0 wr.heap.size (.slice Aw m cw) xs := HLS.out.keep fun j _ h2 => (s30 (fun _ => True)).block j h2 trivial
      have hlt : ∀ j, Value.ownBlock (.slice Aw m cw) = some j → j < w3.heap.size := fun j h => by obtain ⟨ys, h1, _⟩ := HLS.out; exact (h1.lt j h).2
      have hBel : Below w.heap.size w W0 := (HBW.out.trans (HB3.out.mono (by omega))).trans ((s30 (fun _ => True)).below (by omega) (fun _ _ => trivial))
      have hseq : SeqOf Try.prog 20 #[.pointer (some ⟨po, 0, none⟩)] (fun _ => True) (fun k => w1.heap.size ≤ k ∧ k < w2.heap.size) xs W0 := by
        rw [HX.out]
        refine HSEQ.out.later (((HS.out.mono fun j _ h => ?_).trans (Same.of_below HB3.out fun _ h _ => h)).trans (s30 _))
        intro e; omega
      have S3 := Lib.hid (s30 fun _ => True)
      clear hW0 s30 hs0 hS0
      refine wp_rangeB rfl (fun _ _ => rfl) hseq (by simp) (fun _ _ => trivial) (by intro k hk; omega) (PI W0 W0.heap.size (w3.heap.size + 1) z) (PB W0 W0.heap.size (w3.heap.size + 1) z) ?hI ?hIb ?h0 3 ?hbody ?hend
      case hI =>
        rintro k B C ⟨h1, h2, h3⟩ hs
        exact ⟨h1.trans (hs.mono fun j _ h => ⟨trivial, by omega, by omega⟩), h2.same hs ⟨trivial, by omega, by omega⟩, h3⟩
      case hIb =>
        rintro k B C ⟨h1, j, h2, h3⟩ hs
        exact ⟨h1.trans (hs.mono fun j _ h => by omega), j, h2.same hs (by omega), h3⟩
      case h0 => exact ⟨Same.refl _ _, hbn, fun j h => by omega⟩
      case hbody =>
        rintro ly k q A2 c2 W ⟨h1, h2, h3⟩ hz hq hsl
        simp only [List.setIfInBounds_toArray, List.set_cons_zero, List.set_cons_succ]
        have gs := hbs.same h1 ⟨by omega, by omega⟩
        have gw := hbw.same h1 ⟨by omega, by omega⟩
        have cs := gs.cell
        have cw' := gw.cell
        have cn := h2.cell
        have fn := h2.frozen
        by_cases hzk : z = (k : Int)
        · have H1 := Lib.hid h1
          have H2 := Lib.hid h2
          have HZ := Lib.hid hzk
          have hd : ((k : Int) == z) = true := by simp [hzk]
          clear h1 h2 h3 hzk gs gw hq hsl hbs hbr hbw hbn
          gi_wp2_with fail
          exact ⟨Same.refl _ _, rfl, H1.out, k, H2.out, HZ.out⟩
        · have hkm : k < m := by rw [HM.out]; exact (List.getElem?_eq_some_iff.1 hq).1
          have hlw : Lst W wr.heap.size (.slice Aw m cw) xs := HLS.out.keep fun j _ hj => (h1.block j (by omega) ⟨by omega, by omega⟩).trans (S3.out.block j hj trivial)
          obtain ⟨gg, q', A3, c3, hAw, hq', hcell, hsl3⟩ := hlw.at_ HM.out.symm hkm
          rw [hq] at hq'
          injection hq' with hq'
          subst hq' hAw
          have hgl : gg < W.heap.size := World.block_lt_of_cell? W _ hcell
          have hqb : q.length ≤ 1048576 := by have := HPB.out q (HX.out ▸ List.mem_of_getElem? hq); have := HL.out; omega
          have HX2 := Lib.hid (hsl.rd (by omega))
          have HX3 := Lib.hid (hsl3.rd (by omega))
          have hd : ((k : Int) == z) = false := by simpa using fun e => hzk e.symm
          have H1 := Lib.hid h1
          have H2 := Lib.hid h2
          have H3 := Lib.hid h3
          have HSL := Lib.hid hsl
          have HQ := Lib.hid hq
          have HZK := Lib.hid hzk
          clear hlw hsl3 hsl h1 h3 hq hzk hbs hbr hbw hbn hseq hBel hls hlt
          gi_wp2_with fail
          clear cs cw' cn fn
          have hge : decide (m ≤ k) = false := by simp; omega
          refine wp_seq_in (I := fun w' => Below W.heap.size W w') (Gr := fun w1 w2 => Below w1.heap.size w1 w2) (by kernel_rfl) (by kernel_rfl) (by kernel_rfl) (Below.refl _ _).drew ?_
          refine Free.Seq.val ?_ (fun _ => Below.refl _ _) (fun a w1 hI hp => ?_) ?_
          rotate_left
          · have e9 := hp.slotV 9 (by kernel_rfl) rfl; simp at e9
            have k0 := (hI.cell (p := ⟨w3.heap.size + 1, 0, none⟩) h2.lt).trans h2.cell
            refine ⟨Free.want_none rfl, ?_⟩
            clear hp
            go_simp
            rfl
          refine Free.Seq.val ?_ (fun _ => Below.refl _ _) (fun a w1 hI hp => ?_) ?_
          rotate_left
          · have e8 := hp.slotV 8 (by kernel_rfl) rfl; simp at e8
            have k1 := (hI.cell (p := ⟨w3.heap.size, 0, none⟩) gw.lt).trans gw.cell
            refine ⟨Free.want_none rfl, ?_⟩
            clear hp
            go_simp
            rfl
          refine Free.Seq.val ?_ (fun _ => Below.refl _ _) (fun a w1 hI hp => ?_) ?_
          rotate_left
          · have e38 := hp.backV 1 0 rfl rfl rfl rfl rfl
            refine ⟨Free.want_none rfl, ?_⟩
            clear hp
            go_simp
            rfl
          refine Free.Seq.val ?_ (fun _ => Below.refl _ _) (fun a w1 hI hp => ?_) ?_
          rotate_left
          · have e37 := hp.backV 0 2 rfl rfl rfl rfl rfl; have e39 := hp.backV 2 0 rfl rfl rfl rfl rfl
            skip
            refine ⟨Free.want_none rfl, ?_⟩
            clear hp
            go_simp
            rfl
          refine Free.Seq.val ?_ (fun _ => Below.refl _ _) (fun a w1 hI hp => ?_) ?_
          rotate_left
          · have e40 := hp.backV 3 0 rfl rfl rfl rfl rfl
            refine ⟨Free.want_none rfl, ?_⟩
            clear hp
            go_simp
            rfl
          refine Free.Seq.val ?_ (fun _ => Below.refl _ _) (fun a w1 hI hp => ?_) ?_
          rotate_left
          · have e41 := hp.backV 4 0 rfl rfl rfl rfl rfl; have e10 := hp.slotV 10 (by kernel_rfl) rfl; simp at e10
            refine ⟨hp.want rfl rfl rfl e41, ?_⟩
            clear hp
            go_simp
            rfl
          refine Free.Seq.val ?_ (fun _ => Below.refl _ _) (fun a w1 hI hp => ?_) ?_
          rotate_left
          · have e41 := hp.backV 4 1 rfl rfl rfl rfl rfl; have e42 := hp.backV 5 0 rfl rfl rfl rfl rfl
            have hc := (HX2.out.below hI).string (P := Try.prog) 22 9 5 Try.underlying22 Try.underlying5 Try.underlying9
            refine ⟨hp.want rfl rfl rfl e41, ?_⟩
            clear hp
            go_simp
            rfl
          refine Free.Seq.val ?_ (fun _ => Below.refl _ _) (fun a w1 hI hp => ?_) ?_
          rotate_left
          · have e41 := hp.backV 4 2 rfl rfl rfl rfl rfl; have e8 := hp.slotV 8 (by kernel_rfl) rfl; simp at e8
            have k1 := (hI.cell (p := ⟨w3.heap.size, 0, none⟩) gw.lt).trans gw.cell
            refine ⟨hp.want rfl rfl rfl e41, ?_⟩
            clear hp
            go_simp
            rfl
          refine Free.Seq.val ?_ (fun _ => Below.refl _ _) (fun a w1 hI hp => ?_) ?_
          rotate_left
          · have e41 := hp.backV 4 3 rfl rfl rfl rfl rfl; have e9 := hp.slotV 9 (by kernel_rfl) rfl; simp at e9
            have k0 := (hI.cell (p := ⟨w3.heap.size + 1, 0, none⟩) h2.lt).trans h2.cell
            refine ⟨hp.want rfl rfl rfl e41, ?_⟩
            clear hp
            go_simp
            rfl
          refine Free.Seq.val ?_ (fun _ => Below.refl _ _) (fun a w1 hI hp => ?_) ?_
          rotate_left
          · have e41 := hp.backV 4 4 rfl rfl rfl rfl rfl; have e44 := hp.backV 7 1 rfl rfl rfl rfl rfl; have e45 := hp.backV 8 0 rfl rfl rfl rfl rfl
            refine ⟨hp.want rfl rfl rfl e41, ?_⟩
            clear hp
            go_simp
            rfl
          refine Free.Seq.val ?_ (fun _ => Below.refl _ _) (fun a w1 hI hp => ?_) ?_
          rotate_left
          · have e41 := hp.backV 4 5 rfl rfl rfl rfl rfl; have e46 := hp.backV 9 0 rfl rfl rfl rfl rfl
            have k2 := (hI.cell (p := ⟨gg, k, none⟩) hgl).trans hcell
            refine ⟨hp.want rfl rfl rfl e41, ?_⟩
            clear hp
            go_simp
            rfl
          refine Free.Seq.val ?_ (fun _ => Below.refl _ _) (fun a w1 hI hp => ?_) ?_
          rotate_left
          · have e41 := hp.backV 4 6 rfl rfl rfl rfl rfl; have e47 := hp.backV 10 0 rfl rfl rfl rfl rfl
            have hc := (HX3.out.below hI).string (P := Try.prog) 22 9 5 Try.underlying22 Try.underlying5 Try.underlying9
            refine ⟨hp.want rfl rfl rfl e41, ?_⟩
            clear hp
            go_simp
            rfl
          refine Free.Seq.val ?_ (fun _ => Below.refl _ _) (fun a w1 hI hp => ?_) ?_
          rotate_left
          · have e41 := hp.backV 4 7 rfl rfl rfl rfl rfl; have e43 := hp.backV 6 5 rfl rfl rfl rfl rfl; have e48 := hp.backV 11 0 rfl rfl rfl rfl rfl
            refine ⟨hp.want rfl rfl rfl e41, ?_⟩
            clear hp
            go_simp
            rfl
          refine Free.Seq.val ?_ (fun _ => Below.refl _ _) (fun a w1 hI hp => ?_) ?_
          rotate_left
          · have e41 := hp.backV 4 8 rfl rfl rfl rfl rfl; have e49 := hp.backV 12 0 rfl rfl rfl rfl rfl
            refine ⟨Free.want_none rfl, ?_⟩
            clear hp
            go_simp
            rfl
          refine Free.Seq.done (by simp) (fun wz hIz => ?_)
          simp only [List.reverse_cons, List.reverse_nil, List.nil_append, List.cons_append, Free.All, Free.eqF, forall_eq]
          have HIZ := Lib.hid hIz
          clear hIz
          simp only [Free.putL, Act.put, List.setIfInBounds_toArray, List.set_cons_zero, List.set_cons_succ]
          refine ⟨trivial, ?_⟩
          dsimp only [Exit.then]
          clear hge hcell hgl hd gs gw
          have s4 : ∀ S, Same S W wz := fun S => Same.of_below HIZ.out fun _ h _ => h
          have hn4 := H2.out.same (s4 fun _ => True) trivial
          have cn4 := hn4.cell
          have fn4 := hn4.frozen
          have hz4 := HIZ.out.size
          have HN4 := Lib.hid (hn4.set (.int .i64 ((k : Int) + 1)))
          have S5 : Hid (Same (fun j => j ≠ w3.heap.size + 1) W (wz.setCell ⟨w3.heap.size + 1, 0, none⟩ (.int .i64 ((k : Int) + 1)))) := (s4 _).setCell (by simp) _
          have HSL5 : Hid (Sl (wz.setCell ⟨w3.heap.size + 1, 0, none⟩ (.int .i64 ((k : Int) + 1))) (W0.heap.size + 2) 5 (.slice A2 q.length c2) q.length (bs q)) := HSL.out.kept fun j hj => S5.out.block j (HSL.out.lt j hj).2 (by have := (HSL.out.lt j hj).1; omega)
          have kb : (k : Int) ≤ 1048577 := by have := HM.out; have := HPL.out; have := HL.out; have := HX.out; subst this; omega
          clear s4 hn4 h2 HSL
          gi_wp2_with fail
          clear cn4 fn4
          obtain ⟨W5, hW5⟩ : ∃ W5, W5 = wz.setCell ⟨w3.heap.size + 1, 0, none⟩ (.int .i64 ((k : Int) + 1)) := ⟨_, rfl⟩
          rw [← hW5] at HN4 S5 HSL5 ⊢
          have hz5 := S5.out.size
          clear hW5
          gi_loopw [11] (fun i wr' => ∃ j : Nat, i = .int .i64 j ∧ j ≤ q.length ∧ Hid (Same (fun b => b < W0.heap.size + 2) W5 wr' ∧ ∃ ys, Sl wr' (W0.heap.size + 2) 5 (.slice A2 q.length c2) q.length ys)) (fun i _ => q.length - (intOf i).toNat)
          case atStart => exact ⟨0, rfl, Nat.zero_le _, Same.refl _ _, _, HSL5.out⟩
          case round =>
            obtain ⟨j, rfl, hj, hs, ys, hys⟩ := hrel
            by_cases hjl : j < q.length
            · obtain ⟨g2, off, rfl, hB2, hg2, hcc⟩ := hys.cell (by omega)
              have hyl : j < ys.length := by rw [hys.1]; exact hjl
              have bc := hcc j ys[j] (List.getElem?_eq_getElem hyl)
              have bf := hys.free (off + j)
              have H6 := Lib.hid (hs.setCell (p := ⟨g2, off + j, none⟩) (by simp; omega) (.int .u8 0))
              have H7 := Lib.hid (hys.store j hjl (.int .u8 0))
              clear hs hys hcc
              gi_wp2_with fail
              go_roundw
              case rel => exact ⟨j + 1, by go_num, hjl, H6.out, _, H7.out⟩
              case measure => simp [intOf]; omega
            · have HS6 := Lib.hid hs
              clear hs hys
              gi_wp2_with fail
              refine ⟨(S5.out.mono fun j _ h => by omega).trans (HS6.out.mono fun j _ h => by omega), (H1.out.trans (S5.out.mono fun j _ h => h.2)).trans (HS6.out.mono fun j _ h => by omega), HN4.out.same HS6.out (by omega), fun i hi => ?_⟩
              rcases Nat.lt_or_ge i k with h | h
              · exact H3.out i h
              · obtain rfl : i = k := by omega
                exact HZK.out
      case hend =>
        intro Wa hI hK hz
        obtain ⟨nn, h1, h2, h3⟩ : ∃ nn : Nat, Same (fun j => j < W0.heap.size ∧ j ≠ w3.heap.size + 1) W0 Wa ∧ Bx Wa (w3.heap.size + 1) 3 (.int .i64 nn) ∧ (nn = m ∨ ¬ nn = m ∧ z = (nn : Int)) := by
          rcases hI with ⟨h1, h2, _⟩ | ⟨_, _, h1, j, h2, h3⟩
          · exact ⟨_, h1, h2, .inl HM.out.symm⟩
          · by_cases e : j = m
            · exact ⟨j, h1, h2, .inl e⟩
            · exact ⟨j, h1, h2, .inr ⟨e, h3⟩⟩
        have hz1 := h1.size
        have HS1 := Lib.hid h1
        have HN := Lib.hid h2
        have HZ3 := Lib.hid h3
        have HK := Lib.hid hK
        have HSEQ2 := Lib.hid hseq
        have HBS := Lib.hid hbs
        have HBR := Lib.hid hbr
        have HBW2 := Lib.hid hbw
        have HBEL := Lib.hid hBel
        clear hI h1 h2 h3 hK hseq hbs hbr hbw hbn hBel hls hlt
        go_wp2_with fail
        obtain ⟨W2, hW2⟩ : ∃ W2, W2 = Wa.alloc (.cells #[.int .i64 0] 3) := ⟨_, rfl⟩
        rw [← hW2]
        have sW : ∀ S, Same S Wa W2 := fun S => by rw [hW2]; exact (Same.refl S _).alloc _
        have zW2 : W2.heap.size = Wa.heap.size + 1 := by rw [hW2]; simp
        have hbk : Bx W2 Wa.heap.size 3 (.int .i64 0) := by rw [hW2]; exact Bx.new _ _ _
        have hS2 := HS1.out.trans (sW _)
        have hseq2 := HSEQ2.out.later (hS2.mono fun j _ h => by omega)
        have hbs := HBS.out.same hS2 ⟨by omega, by omega⟩
        have hbr := HBR.out.same hS2 ⟨by omega, by omega⟩
        have hbw := HBW2.out.same hS2 ⟨by omega, by omega⟩
        have hbn := HN.out.same (sW fun _ => True) trivial
        have hK2 := ((sW fun _ => True).block _ (by omega) trivial).trans HK.out
        have S3' : Hid (Same (fun j => j < w3.heap.size) w3 W2) := (S3.out.mono fun _ _ _ => trivial).trans (hS2.mono fun j _ h => by omega)
        have hBel2 : Below w.heap.size w W2 := HBEL.out.trans (hS2.below (by omega) fun j hj => by omega)
        clear hW2 hS2
        refine wp_rangeB rfl (fun _ _ => rfl) hseq2 (by simp) (fun _ _ => trivial) (by intro k hk; omega) (PI W2 W2.heap.size Wa.heap.size (-1)) (fun _ _ => False) ?hI ?hIb ?h0 3 ?hbody ?hend
        case hI =>
          rintro k B C ⟨h1, h2, h3⟩ hs
          exact ⟨h1.trans (hs.mono fun j _ h => ⟨trivial, by omega, by omega⟩), h2.same hs ⟨trivial, by omega, by omega⟩, h3⟩
        case hIb =>
          intro k B C h hs
          exact h
        case h0 => exact ⟨Same.refl _ _, hbk, fun j h => by omega⟩
        case hbody =>
          rintro ly k q A2 c2 W ⟨h1, h2, h3⟩ hz' hq hsl
          simp only [List.setIfInBounds_toArray, List.set_cons_zero, List.set_cons_succ]
          have gw := hbw.same h1 ⟨by omega, by omega⟩
          have hkm : k < m := by rw [HM.out]; exact (List.getElem?_eq_some_iff.1 hq).1
          have hlw : Lst W wr.heap.size (.slice Aw m cw) xs := HLS.out.keep fun j _ hj => (h1.block j (by omega) ⟨by omega, by omega⟩).trans (S3'.out.block j hj hj)
          obtain ⟨gg, q', A3, c3, hAw, hq', hcell, hsl3⟩ := hlw.at_ HM.out.symm hkm
          rw [hq] at hq'
          injection hq' with hq'
          subst hq' hAw
          have hgl : gg < W.heap.size := World.block_lt_of_cell? W _ hcell
          have hqb : q.length ≤ 1048576 := by have := HPB.out q (HX.out ▸ List.mem_of_getElem? hq); have := HL.out; omega
          have HX2 := Lib.hid (hsl.rd (by omega))
          have HX3 := Lib.hid (hsl3.rd (by omega))
          have H1 := Lib.hid h1
          have H2 := Lib.hid h2
          clear hlw hsl3 hsl h1 h3 hq hbs hbr hbw hbn hseq2 hBel2 hbk hK2
          gi_wp2_with fail
          have hge : decide (m ≤ k) = false := by simp; omega
          refine wp_seq_in (I := fun w' => Below W.heap.size W w') (Gr := fun w1 w2 => Below w1.heap.size w1 w2) (by kernel_rfl) (by kernel_rfl) (by kernel_rfl) (Below.refl _ _).drew ?_
          refine Free.Seq.val ?_ (fun _ => Below.refl _ _) (fun a w1 hI hp => ?_) ?_
          rotate_left
          · have e12 := hp.slotV 12 (by kernel_rfl) rfl; simp at e12
            have k0 := (hI.cell (p := ⟨Wa.heap.size, 0, none⟩) h2.lt).trans h2.cell
            refine ⟨Free.want_none rfl, ?_⟩
            clear hp
            go_simp
            rfl
          refine Free.Seq.val ?_ (fun _ => Below.refl _ _) (fun a w1 hI hp => ?_) ?_
          rotate_left
          · have e8 := hp.slotV 8 (by kernel_rfl) rfl; simp at e8
            have k1 := (hI.cell (p := ⟨w3.heap.size, 0, none⟩) gw.lt).trans gw.cell
            refine ⟨Free.want_none rfl, ?_⟩
            clear hp
            go_simp
            rfl
          refine Free.Seq.val ?_ (fun _ => Below.refl _ _) (fun a w1 hI hp => ?_) ?_
          rotate_left
          · have e65 := hp.backV 1 0 rfl rfl rfl rfl rfl
            refine ⟨Free.want_none rfl, ?_⟩
            clear hp
            go_simp
            rfl
          refine Free.Seq.val ?_ (fun _ => Below.refl _ _) (fun a w1 hI hp => ?_) ?_
          rotate_left
          · have e64 := hp.backV 0 2 rfl rfl rfl rfl rfl; have e66 := hp.backV 2 0 rfl rfl rfl rfl rfl
            skip
            refine ⟨Free.want_none rfl, ?_⟩
            clear hp
            go_simp
            rfl
          refine Free.Seq.val ?_ (fun _ => Below.refl _ _) (fun a w1 hI hp => ?_) ?_
          rotate_left
          · have e67 := hp.backV 3 0 rfl rfl rfl rfl rfl
            refine ⟨Free.want_none rfl, ?_⟩
            clear hp
            go_simp
            rfl
          refine Free.Seq.val ?_ (fun _ => Below.refl _ _) (fun a w1 hI hp => ?_) ?_
          rotate_left
          · have e68 := hp.backV 4 0 rfl rfl rfl rfl rfl; have e13 := hp.slotV 13 (by kernel_rfl) rfl; simp at e13
            refine ⟨hp.want rfl rfl rfl e68, ?_⟩
            clear hp
            go_simp
            rfl
          refine Free.Seq.val ?_ (fun _ => Below.refl _ _) (fun a w1 hI hp => ?_) ?_
          rotate_left
          · have e68 := hp.backV 4 1 rfl rfl rfl rfl rfl; have e69 := hp.backV 5 0 rfl rfl rfl rfl rfl
            have hc := (HX2.out.below hI).string (P := Try.prog) 22 9 5 Try.underlying22 Try.underlying5 Try.underlying9
            refine ⟨hp.want rfl rfl rfl e68, ?_⟩
            clear hp
            go_simp
            rfl
          refine Free.Seq.val ?_ (fun _ => Below.refl _ _) (fun a w1 hI hp => ?_) ?_
          rotate_left
          · have e68 := hp.backV 4 2 rfl rfl rfl rfl rfl; have e8 := hp.slotV 8 (by kernel_rfl) rfl; simp at e8
            have k1 := (hI.cell (p := ⟨w3.heap.size, 0, none⟩) gw.lt).trans gw.cell
            refine ⟨hp.want rfl rfl rfl e68, ?_⟩
            clear hp
            go_simp
            rfl
          refine Free.Seq.val ?_ (fun _ => Below.refl _ _) (fun a w1 hI hp => ?_) ?_
          rotate_left
          · have e68 := hp.backV 4 3 rfl rfl rfl rfl rfl; have e12 := hp.slotV 12 (by kernel_rfl) rfl; simp at e12
            have k0 := (hI.cell (p := ⟨Wa.heap.size, 0, none⟩) h2.lt).trans h2.cell
            refine ⟨hp.want rfl rfl rfl e68, ?_⟩
            clear hp
            go_simp
            rfl
          refine Free.Seq.val ?_ (fun _ => Below.refl _ _) (fun a w1 hI hp => ?_) ?_
          rotate_left
          · have e68 := hp.backV 4 4 rfl rfl rfl rfl rfl; have e71 := hp.backV 7 1 rfl rfl rfl rfl rfl; have e72 := hp.backV 8 0 rfl rfl rfl rfl rfl
            refine ⟨hp.want rfl rfl rfl e68, ?_⟩
            clear hp
            go_simp
            rfl
          refine Free.Seq.val ?_ (fun _ => Below.refl _ _) (fun a w1 hI hp => ?_) ?_
          rotate_left
          · have e68 := hp.backV 4 5 rfl rfl rfl rfl rfl; have e73 := hp.backV 9 0 rfl rfl rfl rfl rfl
            have k2 := (hI.cell (p := ⟨gg, k, none⟩) hgl).trans hcell
            refine ⟨hp.want rfl rfl rfl e68, ?_⟩
            clear hp
            go_simp
            rfl
          refine Free.Seq.val ?_ (fun _ => Below.refl _ _) (fun a w1 hI hp => ?_) ?_
          rotate_left
          · have e68 := hp.backV 4 6 rfl rfl rfl rfl rfl; have e74 := hp.backV 10 0 rfl rfl rfl rfl rfl
            have hc := (HX3.out.below hI).string (P := Try.prog) 22 9 5 Try.underlying22 Try.underlying5 Try.underlying9
            refine ⟨hp.want rfl rfl rfl e68, ?_⟩
            clear hp
            go_simp
            rfl
          refine Free.Seq.val ?_ (fun _ => Below.refl _ _) (fun a w1 hI hp => ?_) ?_
          rotate_left
          · have e68 := hp.backV 4 7 rfl rfl rfl rfl rfl; have e70 := hp.backV 6 5 rfl rfl rfl rfl rfl; have e75 := hp.backV 11 0 rfl rfl rfl rfl rfl
            refine ⟨hp.want rfl rfl rfl e68, ?_⟩
            clear hp
            go_simp
            rfl
          refine Free.Seq.val ?_ (fun _ => Below.refl _ _) (fun a w1 hI hp => ?_) ?_
          rotate_left
          · have e68 := hp.backV 4 8 rfl rfl rfl rfl rfl; have e76 := hp.backV 12 0 rfl rfl rfl rfl rfl
            refine ⟨Free.want_none rfl, ?_⟩
            clear hp
            go_simp
            rfl
          refine Free.Seq.done (by simp) (fun wz hIz => ?_)
          simp only [List.reverse_cons, List.reverse_nil, List.nil_append, List.cons_append, Free.All, Free.eqF, forall_eq]
          have HIZ := Lib.hid hIz
          clear hIz
          simp only [Free.putL, Act.put, List.setIfInBounds_toArray, List.set_cons_zero, List.set_cons_succ]
          refine ⟨trivial, ?_⟩
          dsimp only [Exit.then]
          clear hge hcell hgl gw
          have s4 : ∀ S, Same S W wz := fun S => Same.of_below HIZ.out fun _ h _ => h
          have hn4 := H2.out.same (s4 fun _ => True) trivial
          have cn4 := hn4.cell
          have fn4 := hn4.frozen
          have hz4 := HIZ.out.size
          have HN4 := Lib.hid (hn4.set (.int .i64 ((k : Int) + 1)))
          have S5 : Hid (Same (fun j => j ≠ Wa.heap.size) W (wz.setCell ⟨Wa.heap.size, 0, none⟩ (.int .i64 ((k : Int) + 1)))) := (s4 _).setCell (by simp) _
          have kb : (k : Int) ≤ 1048577 := by have := HM.out; have := HPL.out; have := HL.out; have := HX.out; subst this; omega
          clear s4 hn4 h2
          gi_wp2_with fail
          exact ⟨S5.out.mono fun j _ h => by omega, H1.out.trans (S5.out.mono fun j _ h => h.2), HN4.out, fun i _ => by omega⟩
        case hend =>
          rintro Wb (⟨h1, h2, _⟩ | ⟨_, _, h⟩) hK3 hz3'
          · rw [← HM.out] at h2
            have HS4 := Lib.hid h1
            have gk := h2.cell
            have gs := (hbs.same h1 ⟨by omega, by omega⟩).cell
            have gw := (hbw.same h1 ⟨by omega, by omega⟩).cell
            have gn := (hbn.same h1 ⟨by omega, by omega⟩).cell
            have HR2 := Lib.hid (hbr.same h1 ⟨by omega, by omega⟩)
            have HK2 := Lib.hid ((h1.block _ (by omega) ⟨by omega, by omega⟩).trans hK2)
            have HK3 := Lib.hid hK3
            have HB4 := Lib.hid (hBel2.trans (h1.below (by omega) fun j hj => ⟨by omega, by omega⟩))
            clear h1 h2 hK3 hbs hbr hbw hbn hseq2 hBel2 hbk hK2 sW
            have y1 : W0.heap.size ≤ w3.heap.size + 2 := by omega
            have y2 : w3.heap.size + 2 ≤ W0.heap.size := by omega
            have y3 : W2.heap.size ≤ Wa.heap.size + 1 := by omega
            have y4 : Wa.heap.size + 1 ≤ W2.heap.size := by omega
            have y5 : w0.heap.size ≤ w.heap.size + 2 := by omega
            have y6 : w.heap.size + 2 ≤ w0.heap.size := by omega
            clear zW zW2 z0
            rcases HZ3.out with e | ⟨e, e2⟩
            · subst e
              clear HZ3
              go_wp2_with fail
              refine (awake_any _).mono ?_
              rintro e w5 ⟨rfl, hb5⟩
              have s5 : ∀ S, Same S Wb w5 := fun S => Same.of_below hb5 fun _ h _ => h
              have hr5 := HR2.out.same (s5 fun _ => True) trivial
              have cr5 := hr5.cell
              have fr5 := hr5.frozen
              have HR5 := Lib.hid (hr5.set (.bool true))
              have S6 : Hid (Same (fun j => j ≠ w.heap.size + 1) Wb (w5.setCell ⟨w.heap.size + 1, 0, none⟩ (.bool true))) := (s5 _).setCell (by simp) _
              clear s5 hr5 hb5
              go_wp2_with fail
              refine marks_take ((S6.out.block _ (by omega) (by omega)).trans HK3.out) (marks_take ?_ (marks_end (results_cell1 rfl _ _ ⟨w.heap.size + 1, 0, none⟩ (.bool true) rfl (fun _ => by kernel_rfl) ?_) ⟨rfl, ?_⟩))
              · exact (World.putObj_heap_other (by omega)).trans ((S6.out.block _ (by omega) (by omega)).trans HK2.out)
              · exact (((HR5.out.same (S := fun j => j ≠ W2.heap.size) ((Same.refl _ _).putObj (by simp) _) (by omega))).same (S := fun j => j ≠ W0.heap.size) ((Same.refl _ _).putObj (by simp) _) (by omega)).cell
              · have hz6 := S6.out.size
                have hz7 := HB4.out.size
                have s7 := ((S6.out.mono (S' := fun j => j < w.heap.size) fun j _ h => by omega).putObj (r := W2.heap.size) (by omega) (.deferred none)).putObj (r := W0.heap.size) (by omega) (.deferred none)
                exact HB4.out.trans (s7.below (by omega) fun j hj => hj)
            · subst e2
              have hd1 : decide (nn = m) = false := by simp [e]
              have hd2 : (nn == m) = false := by simp [e]
              have hd3 : ((nn : Int) == (m : Int)) = false := by simp; omega
              clear HZ3 e
              go_wp2_with fail
              refine (awake_any _).mono ?_
              rintro e w5 ⟨rfl, hb5⟩
              have s5 : ∀ S, Same S Wb w5 := fun S => Same.of_below hb5 fun _ h _ => h
              have hr5 := HR2.out.same (s5 fun _ => True) trivial
              have cr5 := hr5.cell
              have fr5 := hr5.frozen
              have HR5 := Lib.hid (hr5.set (.bool true))
              have S6 : Hid (Same (fun j => j ≠ w.heap.size + 1) Wb (w5.setCell ⟨w.heap.size + 1, 0, none⟩ (.bool true))) := (s5 _).setCell (by simp) _
              clear s5 hr5 hb5
              go_wp2_with fail
              refine marks_take ((S6.out.block _ (by omega) (by omega)).trans HK3.out) (marks_take ?_ (marks_end (results_cell1 rfl _ _ ⟨w.heap.size + 1, 0, none⟩ (.bool true) rfl (fun _ => by kernel_rfl) ?_) ⟨rfl, ?_⟩))
              · exact (World.putObj_heap_other (by omega)).trans ((S6.out.block _ (by omega) (by omega)).trans HK2.out)
              · exact (((HR5.out.same (S := fun j => j ≠ W2.heap.size) ((Same.refl _ _).putObj (by simp) _) (by omega))).same (S := fun j => j ≠ W0.heap.size) ((Same.refl _ _).putObj (by simp) _) (by omega)).cell
              · have hz6 := S6.out.size
                have hz7 := HB4.out.size
                have s7 := ((S6.out.mono (S' := fun j => j < w.heap.size) fun j _ h => by omega).putObj (r := W2.heap.size) (by omega) (.deferred none)).putObj (r := W0.heap.size) (by omega) (.deferred none)
                exact HB4.out.trans (s7.below (by omega) fun j hj => hj)
          · exact h.elim
end Go.Proofs.Ytiffbmnenbnglaa
