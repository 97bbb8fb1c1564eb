/-
  STATES: the walk of snap.Put.
-/
import Derived.Test.YtcnlgcmooegfkaaSnapCheck
import Derived.Test.YtcnlgcmooegfkaaSnapBytes
import Derived.Test.YtcnlgcmooegfkaaCrcMore
namespace Go.Proofs.Ytcnlgcmooegfkaa
open Go.RowKit Mg Sn

theorem rdE_ints (w : World) (xs : List Int) (n : Nat) (hn : xs.length = n) (hb : n ≤ 281474976710656) (T : TypeId) : RdE EInt 1 (w.alloc (.cells (is64 xs).toArray T)) w.heap.size (some ⟨w.heap.size, 0, none⟩) n n xs := by
  refine ⟨hn, Nat.le_refl _, hb, fun _ => ⟨w.heap.size, 0, rfl, Nat.le_refl _, by simp, fun k x hx => ⟨[.int .i64 x], rfl, rfl, fun i u hu => ?_⟩⟩⟩
  match i, hu with
  | 0, hu =>
    injection hu with hu
    subst hu; rw [cell_of_cells (heap_alloc_new w _)]; simp [is64, hx]
theorem bv1 {x : Int} (h0 : 0 ≤ x) (h1 : x ≤ 255) : bv (b1 x) = .int .u8 x := by
  simp only [bv, b1, UInt8.toNat_ofNat']
  congr 1
  omega
theorem rdE_blk {w : World} {p : Nat} {xs : List Int} {n : Nat} {T : TypeId} {fr : Nat × Nat} (h : w.heap[p]? = some (.cells (is64 xs).toArray T fr)) (hn : xs.length = n) (hb : n ≤ 281474976710656) : RdE EInt 1 w 0 (some ⟨p, 0, none⟩) n n xs := by
  refine ⟨hn, Nat.le_refl _, hb, fun _ => ⟨p, 0, rfl, Nat.zero_le _, (Array.getElem?_eq_some_iff.1 h).1, fun k x hx => ⟨[.int .i64 x], rfl, rfl, fun i u hu => ?_⟩⟩⟩
  match i, hu with
  | 0, hu =>
    injection hu with hu
    subst hu; rw [cell_of_cells h]; simp [is64, hx]
theorem src_blk {w : World} {p : Nat} {x : Value} {T : TypeId} {fr : Nat × Nat} (h : w.heap[p]? = some (.cells #[x] T fr)) (hx : x.oneCell' = true) : Src w (some ⟨p, 0, none⟩) 1 1 [x] :=
  ⟨rfl, fun _ => ⟨⟨p, 0, none⟩, rfl, fun j u hu => by
    rw [add_none, cell_of_cells h]
    simpa using hu⟩, fun u hu => by simp at hu; subst hu; exact hx⟩
/-- lay, of numbers that a literal has just laid -/
theorem lay_lit {A : Option Addr} {m c : Nat} {l : List UInt8} {B : Nat} {W : World} (xs : List Int) (n : Nat) (hn : xs.length = n) (T : TypeId) (hO : OwnB W B 5 (.slice A m c) l) (hlen : l.length = m) (hB : B ≤ W.heap.size) (hx : ∀ x ∈ xs, 0 ≤ x ∧ x ≤ 65535) (hm : m + 2 * n ≤ 1000000000000) :
    Calls Try.prog 21 #[.slice A m c, .slice (some ⟨W.heap.size, 0, none⟩) n n] (W.alloc (.cells (is64 xs).toArray T)) fun e w' => ∃ A' c', e = .returned (.slice A' (m + 2 * n) c') ∧ OwnB w' B 5 (.slice A' (m + 2 * n) c') (l ++ beL xs) ∧ Below W.heap.size W w' := by
  have hb : Below W.heap.size W (W.alloc (.cells (is64 xs).toArray T)) := (Below.refl _ _).alloc (Nat.le_refl _) _; refine (lay_any A m c l _ n n xs B _ _ (own_below hO hb) hlen (by simp; omega) (rdE_ints W xs n hn (by omega) T) hx hm).mono ?_; rintro e w' ⟨A', c', rfl, h1, h2⟩; exact ⟨A', c', rfl, h1, hb.trans (h2.mono (by simp))⟩
/-- a byte that a literal has just laid goes behind -/
theorem wpList_byte {ops : Array Oper} {rest : List Oper} {o : Oper} {a : Act} {Q : Exit → Act → World → Prop} (hgd : o.guard = none) (s x : Operand)
    (ho : o.op = .call { callee := .builtin .append, args := #[s, x], argTypes := #[28, 28] })
    {B : Nat} {A : Option Addr} {m c : Nat} {l : List UInt8} {w : World} {X : Int} (hv : a.eval s = .slice A m c) (hx : a.eval x = .slice (some ⟨w.heap.size, 0, none⟩) 1 1) (hO : OwnB w B 5 (.slice A m c) l) (hlen : l.length = m) (hB : B ≤ w.heap.size) (hm : m ≤ 1000000000000) (hX : 0 ≤ X ∧ X ≤ 255) {T : TypeId}
    (h : ∀ A' c' w', OwnB w' B 5 (.slice A' (m + 1) c') (l ++ [b1 X]) → Below B w w' → (∀ q, q < w.heap.size → Value.ownBlock (.slice A m c) ≠ some q → w'.heap[q]? = w.heap[q]?) → wpList Try.prog ops Q rest (a.put o.dst (.slice A' (m + 1) c')) w') : wpList Try.prog ops Q (o :: rest) a (w.alloc (.cells #[.int .u8 X] T)) := by
  have hb : Below w.heap.size w (w.alloc (.cells #[.int .u8 X] T)) := (Below.refl _ _).alloc (Nat.le_refl _) _; have ho' := own_below hO hb; refine wpList_app _ hgd elemB s x ho hv (OwnB.row ho' hlen) hx (src_blk (heap_alloc_new w _) rfl) (m + 1) rfl (by omega) (by simp; omega) ?_; intro A' c' w' h1 h2 _; refine h A' c' w' (OwnB.of h1 _ (by rw [bs_append]; simp [bs, bv1 hX.1 hX.2])) ((hb.mono hB).trans (below_app (OwnB.row ho' hlen) h2 (by simp; omega))) (fun q hq hn => (h2.block q (by simp; omega) (fun e => hn e.symm)).trans (hb.block q hq))
def ptB (s : St) : List UInt8 := if ck s = 0 then putB s else []
set_option maxRecDepth 100000 in
set_option maxHeartbeats 4000000 in
theorem put_st (s : St) (v : Sv) (B : Nat) (w : World) (hR : RdS w B v s) :
    Calls Try.prog 10 #[stv s v] w fun e w' => ∃ A n c, e = .returned (.tuple #[.slice A n c, .int .i64 (ck s)]) ∧ n = (ptB s).length ∧ OwnB w' w.heap.size 5 (.slice A n c) (ptB s) ∧ Below w.heap.size w w' := by
  obtain ⟨R, hRR⟩ : ∃ R, R = ck s := ⟨_, rfl⟩; have HC : Hid (∀ w' : World, Below w.heap.size w w' → Calls Try.prog 12 #[stv s v] w' fun e w'' => e = .returned (.int .i64 R) ∧ Below w'.heap.size w' w'') := fun w' h => by rw [hRR]; exact check_st s v B w' (hR.below h)
  have HN := Lib.hid hR; have h1 := hR.nx.big; have h2 := hR.hd.big; have h3 := hR.sn.big; have hl1 := hR.nx.len; have hl2 := hR.hd.len; have hl3 := hR.sn.len; clear hR
  by_cases h0 : ck s = 0
  rotate_left
  · have hpt : ptB s = [] := if_neg h0; rw [hpt, ← hRR]; rw [← hRR] at h0; clear hRR hpt hl1 hl2 hl3; obtain ⟨self, ep, nx, ml, sn⟩ := s; obtain ⟨A1, n1, c1, A2, n2, c2, A3, n3, c3⟩ := v; unfold stv at HC ⊢; simp only at HC h1 h2 h3 ⊢; have hb : (R != 0) = true := by simpa using h0
    go_enter Try.func10, Try.ntmps10
    go_wp2_with fail
    have hB0 : Below w.heap.size w (w.alloc (.cells #[.int .i64 self, .int .i64 ep, .slice A1 n1 c1, .slice A2 n2 c2, .slice A3 n3 c3] 26)) := (Below.refl _ _).alloc (Nat.le_refl _) _; refine (HC.out _ hB0).mono ?_; rintro e9 w9 ⟨rfl, hb9⟩; have HB := Lib.hid (hB0.trans (hb9.mono (by simp))); clear hb9 hB0
    go_wp2_with fail
    go_ret2
    exact ⟨none, 0, 0, rfl, rfl, World.ownsRow_nil _ _ _ _, HB.out⟩
  have HOK := Lib.hid ((ck_ok s).1 h0); have hpt : ptB s = putB s := if_pos h0; rw [hpt, h0]; rw [h0] at hRR; subst hRR; have HPB := Lib.hid (bodyB_len HOK.out); have hx1 := HOK.out.nxl; have hx2 := HOK.out.hd; have hx3 := HOK.out.sn; have hx4 := HOK.out.self; have hx5 := HOK.out.ep; clear h0 hpt; obtain ⟨PB, hPB⟩ : ∃ PB, PB = putB s := ⟨_, rfl⟩; rw [← hPB]; have HPBE := Lib.hid hPB; clear hPB; obtain ⟨self, ep, nx, ml, sn⟩ := s; obtain ⟨A1, n1, c1, A2, n2, c2, A3, n3, c3⟩ := v; unfold stv at HC ⊢; simp only at HC h1 h2 h3 hl1 hl2 hl3 hx1 hx2 hx3 hx4 hx5 ⊢; obtain ⟨S, rfl⟩ : ∃ S : Nat, self = S := ⟨self.toNat, (Int.toNat_of_nonneg hx4.1).symm⟩; have hS8 : (S : Int) % 256 = (S : Int) := by omega
  have hN8 : (n1 : Int) % 256 = (n1 : Int) := by omega
  go_enter Try.func10, Try.ntmps10
  go_wp2_with fail
  have hB0 : Below w.heap.size w (w.alloc (.cells #[.int .i64 S, .int .i64 ep, .slice A1 n1 c1, .slice A2 n2 c2, .slice A3 n3 c3] 26)) := (Below.refl _ _).alloc (Nat.le_refl _) _; refine (HC.out _ hB0).mono ?_; rintro e9 wp ⟨rfl, hb9⟩; have hw1 : w.heap.size < wp.heap.size := by have := hb9.size; simp at this; omega
  have HB1 := Lib.hid (hB0.trans (hb9.mono (by simp))); have G1 : Hid (wp.heap[w.heap.size]? = some (.cells #[.int .i64 S, .int .i64 ep, .slice A1 n1 c1, .slice A2 n2 c2, .slice A3 n3 c3] 26 (0, 0))) := (hb9.block w.heap.size (by simp)).trans (heap_alloc_new w _); have GP := G1; have a0 := cell_of_cells G1.out 0; have a1 := cell_of_cells G1.out 1; simp at a0 a1; clear hb9 hB0
  go_wp2_with fail
  obtain ⟨W, hW⟩ : ∃ W, W = wp.alloc (.cells #[.int .u8 (S : Int)] 5) := ⟨_, rfl⟩; have hWs : wp.heap.size + 1 = W.heap.size := by rw [hW]; simp
  rw [← hW, hWs]; have hOW : OwnB W wp.heap.size 5 (.slice (some ⟨wp.heap.size, 0, none⟩) 1 1) [b1 (S : Int)] := by
    have := own_lit wp [b1 (S : Int)] 1 rfl (by omega) (Nat.le_refl _) 5; rw [show (bs [b1 (S : Int)]).toArray = #[.int .u8 (S : Int)] by simp [bs, bv1 hx4.1 (by omega)]] at this; rw [hW]; exact this
  have hWW : Below wp.heap.size wp W := by rw [hW]; exact (Below.refl _ _).alloc (Nat.le_refl _) _
  refine (lay_lit [ep] 1 rfl _ hOW rfl (by omega) (by simp; omega) (by omega)).mono ?_; rintro e2 w2 ⟨A2', c2', rfl, ho2, hb2⟩; have hz2 := hb2.size; have HB2 : Hid (Below wp.heap.size wp w2) := hWW.trans (hb2.mono (by omega)); have HO2 := Lib.hid ho2; have a2 := (HB2.out.cell (p := ⟨w.heap.size, 2, none⟩) hw1).trans (cell_of_cells G1.out 2); simp at a2; have hlen2 : ([b1 (S : Int)] ++ beL [ep]).length = 1 + 2 * 1 := by simp [beL_len]
  have HL2 := Lib.hid hlen2; have hn255 : (0 : Int) ≤ (n1 : Int) ∧ (n1 : Int) ≤ 255 := by omega
  clear hW hOW hWW ho2 hb2 a0 a1 hlen2
  go_wp2_with (first | (refine wpList_byte rfl (.tmp 27) (.tmp 32) rfl rfl rfl HO2.out HL2.out (by omega) (by omega) hn255 ?_; intro A3' c3' w3 ho3 hb3 _; have a2w := (hb3.cell (p := ⟨w.heap.size, 2, none⟩) hw1).trans a2) | fail)
  have hz3 := hb3.size; have HB3 : Hid (Below wp.heap.size wp w3) := HB2.out.trans hb3; have HO3 : Hid (OwnB w3 wp.heap.size 5 (.slice A3' 4 c3') (preB ⟨(S : Int), ep, nx, ml, sn⟩)) := by
    show OwnB _ _ _ _ _
    have e1 : b1 (n1 : Int) = UInt8.ofNat nx.length := by rw [hl1]; rfl
    rw [preB, ← e1]; exact ho3
  clear a2 a2w ho3 hb3
  go_loopw [37, 5] (fun i v wr => ∃ (k : Nat) (A' : Option Addr) (m c' : Nat), i = .int .i64 k ∧ k ≤ n1 ∧ v = .slice A' m c' ∧ m = 4 + 3 * k ∧ Hid (OwnB wr wp.heap.size 5 (.slice A' m c') (preB ⟨(S : Int), ep, nx, ml, sn⟩ ++ nxsB (nx.take k)) ∧ Below wp.heap.size wp wr)) (fun i _ _ => n1 - (intOf i).toNat)
  case atStart => exact ⟨0, A3', 4, c3', rfl, Nat.zero_le _, rfl, rfl, by simpa [nxsB] using HO3.out, HB3.out⟩
  case round =>
    obtain ⟨k, A', m, c', rfl, hk, rfl, hm, hO, hb⟩ := hrel; have HOr := Lib.hid hO; have HBr := Lib.hid hb; have hzr := hb.size; have HBw : Hid (Below w.heap.size w wr) := HB1.out.trans (hb.mono (by omega)); have hlr : (preB ⟨(S : Int), ep, nx, ml, sn⟩ ++ nxsB (nx.take k)).length = m := by
      rw [List.length_append, preB_len, nxsB_len, List.length_take, Nat.min_eq_left (by omega), hm]
    have HLR := Lib.hid hlr; have HMM := Lib.hid hm; have hm1 : 0 < m := by omega
    have hm2 : m ≤ 1000 := by omega
    clear hO hb hlr hm
    by_cases hlt : k < n1
    · obtain ⟨b, off, x, cs, rfl, hB, hbl, hx, hcs, hlen, hcell⟩ := (HN.out.nx.below keeps_nx HBw.out).at' hlt; unfold ENx at hcs; subst hcs; have c0 := hcell 0 _ rfl; have c1 := hcell 1 _ rfl; rw [Nat.add_zero] at c0; have hxd := (nextB_in HOK.out.nx x (List.mem_of_getElem? hx)).2; have hxc := nextB_c HOK.out.nx x (List.mem_of_getElem? hx); have HX := Lib.hid hx; obtain ⟨d, cn⟩ := x; simp only at c0 c1 hxd hxc; clear hcell hlen hx; have hd8 : d % 256 = d := by omega
      have hdw : IntKind.u8.wrap d = d := IntWalk.u8_in _ (by omega); have HB8 : Hid (0 ≤ d ∧ d ≤ 255) := ⟨by omega, by omega⟩; have HXS : Hid (∀ x ∈ [cn], 0 ≤ x ∧ x ≤ 65535) := by show ∀ x ∈ _, _; simp; omega
      go_wp2_with fail
      obtain ⟨W, hW⟩ : ∃ W, W = wr.alloc (.cells #[.int .i64 d, .int .i64 cn] 50) := ⟨_, rfl⟩; rw [← hW]; have hWs : W.heap.size = wr.heap.size + 1 := by rw [hW]; simp
      have hbW : wr.heap.size < W.heap.size := by omega
      have i0 : W.cell? ⟨wr.heap.size, 0, none⟩ = some (.int .i64 d) := by rw [hW]; exact World.cell?_alloc_mark wr _ _ _ 0
      have i1 : W.cell? ⟨wr.heap.size, 1, none⟩ = some (.int .i64 cn) := by rw [hW]; exact World.cell?_alloc_mark wr _ _ _ 1
      have hWW : Below wr.heap.size wr W := by rw [hW]; exact (Below.refl _ _).alloc (Nat.le_refl _) _
      obtain ⟨g, rfl, hg0, hgw⟩ : ∃ g, A' = some ⟨g, 0, none⟩ ∧ wp.heap.size ≤ g ∧ g < wr.heap.size := by
        obtain ⟨g, h1, h2, h3⟩ := OwnB.at_ HOr.out HLR.out (by omega); exact ⟨g, h1, h2, h3⟩
      have HOW := Lib.hid (own_below HOr.out hWW); have HWW := Lib.hid hWW; have hgW : g < W.heap.size := by omega
      have hgn : wr.heap.size ≠ g := by omega
      clear hW hWW c0 c1; refine Free.wp_seq3 (I := fun L w' => Kept (fun b => b = g) W w' ∧ (L 5 = false → w'.heap[g]? = W.heap[g]?)) (Gr := fun j x y => Kept (fun b => b = g ∧ j = 5) x y) (by kernel_rfl) (by kernel_rfl) ⟨(Kept.refl _ _).drew, fun _ => rfl⟩ ?_; refine Free.Seq3.val ?_ (fun _ => Kept.refl _ _) (fun _ _ h => h) (fun a w1 L hI hp => ?_) ?_; rotate_left
      · have e5 := hp.sl 5; simp at e5; refine ⟨Free.wn, ?_⟩; clear hp; go_simp; rfl
      refine Free.Seq3.val ?_ (fun _ => Kept.refl _ _) (fun _ _ h => h) (fun a w1 L hI hp => ?_) ?_; rotate_left
      · have e7 := hp.sl 7; simp at e7; refine ⟨Free.wn, ?_⟩; clear hp; go_simp; rfl
      refine Free.Seq3.val ?_ (fun _ => Kept.refl _ _) (fun _ _ h => h) (fun a w1 L hI hp => ?_) ?_; rotate_left
      · have e42 := hp.b 1 0; have ki0 : w1.cell? ⟨wr.heap.size, 0, none⟩ = _ := (World.cell?_of_block (w := W) (a := ⟨wr.heap.size, 0, none⟩) (hI.1.block wr.heap.size hbW hgn)).trans i0; refine ⟨Free.wn, ?_⟩; clear hp; go_simp; rfl
      refine Free.Seq3.val ?_ (fun _ => Kept.refl _ _) (fun _ _ h => h) (fun a w1 L hI hp => ?_) ?_; rotate_left
      · have e43 := hp.b 2 0; refine ⟨Free.wn, ?_⟩; clear hp; go_simp; rfl
      refine Free.Seq3.op (T := fun v w' => ∃ p, v = .slice (some ⟨p, 0, none⟩) 1 1 ∧ W.heap.size ≤ p ∧ w'.heap[p]? = some (.cells #[.int .u8 d] 5 (0, 0))) (fun j hj hr v x y ⟨p, e, h1, h2⟩ hg => ⟨p, e, h1, (hg.block p (Array.getElem?_eq_some_iff.1 h2).1 (fun h => by omega)).trans h2⟩) (fun a w1 L hI hp => ?_) ?_
      · have e44 := hp.b 3 0; have hsz := hI.1.size; refine ⟨Free.wn, .slice (some ⟨w1.heap.size, 0, none⟩) 1 1, w1.alloc (.cells #[.int .u8 d] 5), ?_, ⟨_, rfl, hsz, heap_alloc_new w1 _⟩, (Kept.refl _ _).alloc _, hI.1.alloc _, fun h => (Below.heap_alloc w1 _ g (by omega)).trans (hI.2 h)⟩; clear hp hI; go_simp
      refine Free.Seq3.op (T := fun v w' => ∃ A5 c5, v = .slice A5 (m + 1) c5 ∧ OwnB w' wp.heap.size 5 (.slice A5 (m + 1) c5) ((preB ⟨(S : Int), ep, nx, ml, sn⟩ ++ nxsB (nx.take k)) ++ [b1 d])) (fun j hj hr v x y ⟨A5, c5, e, h⟩ hg => ⟨A5, c5, e, row_keep h fun q hq => hg.block q (h.lt q hq).2 (fun hh => hj hh.2)⟩) (fun a w1 L hI hp => ?_) ?_
      · have e41 := hp.b 0 4; have hf : L 5 = false := hp.fresh; have hgb := hI.2 hf; have hsz := hI.1.size; obtain ⟨p, e45, hp1, hp2⟩ := hp.back 4 0 rfl rfl rfl rfl rfl; have hO := row_keep (OwnB.row HOW.out HLR.out) (fun q hq => by injection hq with hq; subst hq; exact hgb); obtain ⟨A5, c5, w5, hr, ho5, hg5, ha5⟩ := run_app (P := Try.prog) w1 elemB 28 hO 1 (src_blk hp2 rfl) (N := m + 1) rfl (by omega) (by omega); refine ⟨Free.wn, .slice A5 (m + 1) c5, w5, Free.exec_app (.tmp 41) (.tmp 45) rfl (Free.eval_tmp e41) (Free.eval_tmp e45) hr, ⟨A5, c5, rfl, OwnB.of ho5 _ (by rw [bs_append]; simp [bs, bv1 HB8.out.1 HB8.out.2])⟩, (Kept.refl _ _).grown hg5 (fun q hq => .inl ⟨by injection hq with hq; exact hq.symm, rfl⟩), hI.1.grown hg5 (fun q hq => .inl (by injection hq with hq; exact hq.symm)), fun h => by simp [Free.upd] at h⟩
      refine Free.Seq3.val ?_ (fun _ => Kept.refl _ _) (fun _ _ h => h) (fun a w1 L hI hp => ?_) ?_; rotate_left
      · have e7 := hp.sl 7; simp at e7; refine ⟨Free.wn, ?_⟩; clear hp; go_simp; rfl
      refine Free.Seq3.val ?_ (fun _ => Kept.refl _ _) (fun _ _ h => h) (fun a w1 L hI hp => ?_) ?_; rotate_left
      · have e47 := hp.b 6 0; have ki1 : w1.cell? ⟨wr.heap.size, 1, none⟩ = _ := (World.cell?_of_block (w := W) (a := ⟨wr.heap.size, 1, none⟩) (hI.1.block wr.heap.size hbW hgn)).trans i1; refine ⟨Free.wn, ?_⟩; clear hp; go_simp; rfl
      refine Free.Seq3.op (T := fun v w' => ∃ p, v = .slice (some ⟨p, 0, none⟩) 1 1 ∧ W.heap.size ≤ p ∧ w'.heap[p]? = some (.cells #[.int .i64 cn] 3 (0, 0))) (fun j hj hr v x y ⟨p, e, h1, h2⟩ hg => ⟨p, e, h1, (hg.block p (Array.getElem?_eq_some_iff.1 h2).1 (fun h => by omega)).trans h2⟩) (fun a w1 L hI hp => ?_) ?_
      · have e48 := hp.b 7 0; have hsz := hI.1.size; refine ⟨Free.wn, .slice (some ⟨w1.heap.size, 0, none⟩) 1 1, w1.alloc (.cells #[.int .i64 cn] 3), ?_, ⟨_, rfl, hsz, heap_alloc_new w1 _⟩, (Kept.refl _ _).alloc _, hI.1.alloc _, fun h => (Below.heap_alloc w1 _ g (by omega)).trans (hI.2 h)⟩; clear hp hI; go_simp
      refine Free.Seq3.call (T := fun v w' => ∃ A5 c5, v = .slice A5 (m + 1 + 2 * 1) c5 ∧ OwnB w' wp.heap.size 5 (.slice A5 (m + 1 + 2 * 1) c5) ((preB ⟨(S : Int), ep, nx, ml, sn⟩ ++ nxsB (nx.take k)) ++ [b1 d] ++ beL [cn])) (fun j hj hr v x y ⟨A5, c5, e, h⟩ hg => ⟨A5, c5, e, row_keep h fun q hq => hg.block q (h.lt q hq).2 (fun hh => by have h9 := hr 40; rw [hh.2] at h9; exact absurd (h9.symm.trans (by kernel_rfl : _ = true)) (by decide))⟩) (fun a w1 L hI hp => ?_) ?_
      · skip
        have hsz := hI.1.size; obtain ⟨A5, c5, e46, ho5⟩ := hp.back 5 3 rfl rfl rfl rfl rfl; obtain ⟨p, e49, hp1, hp2⟩ := hp.back 8 0 rfl rfl rfl rfl rfl; have d5 : L 5 = true := hp.did 5 40 (by kernel_rfl); refine ⟨Free.wn, 21, #[.slice A5 (m + 1) c5, .slice (some ⟨p, 0, none⟩) 1 1], ?_, ?_⟩
        · clear hp; go_simp
        · refine (lay_any A5 (m + 1) c5 _ _ 1 1 [cn] wp.heap.size 0 w1 ho5 (by rw [List.length_append, HLR.out]; rfl) (by omega) (rdE_blk (xs := [cn]) hp2 rfl (by omega)) HXS.out (by omega)).mono ?_; rintro e w' ⟨A6, c6, rfl, h1, h2⟩; exact ⟨_, rfl, ⟨A6, c6, rfl, h1⟩, Kept.all h2, hI.1.trans (Kept.all h2) (S' := fun b => b = g) (fun _ _ h => h), fun h => by have h' : L 5 = false := h; rw [d5] at h'; cases h'⟩
      refine Free.Seq3.op (T := fun v w' => ∃ A5 c5, v = .slice A5 (m + 1 + 2 * 1) c5 ∧ OwnB w' wp.heap.size 5 (.slice A5 (m + 1 + 2 * 1) c5) ((preB ⟨(S : Int), ep, nx, ml, sn⟩ ++ nxsB (nx.take k)) ++ [b1 d] ++ beL [cn])) (fun j hj hr v x y ⟨A5, c5, e, h⟩ hg => ⟨A5, c5, e, row_keep h fun q hq => hg.block q (h.lt q hq).2 (fun hh => by have h9 := hr 40; rw [hh.2] at h9; exact absurd (h9.symm.trans (by kernel_rfl : _ = true)) (by decide))⟩) (fun a w1 L hI hp => ?_) ?_
      · skip
        obtain ⟨A5, c5, e50, ho5⟩ := hp.back 9 0 rfl rfl rfl rfl rfl; refine ⟨Free.wn, .slice A5 (m + 1 + 2 * 1) c5, w1, ?_, ⟨A5, c5, rfl, ho5⟩, Kept.refl _ _, hI⟩; clear hp; go_simp
      refine Free.Seq3.done (by simp) (fun wz L hIz hLz => ?_); simp only [List.reverse_cons, List.reverse_nil, List.nil_append, List.cons_append, Free.All, Free.eqF, forall_eq]; rintro x4 - x5 - x8 - x9 - _ ⟨A9, c9, rfl, ho9⟩; simp only [Free.putL, Act.put, List.setIfInBounds_toArray, List.set_cons_zero, List.set_cons_succ]; have hzz := hIz.1.size; have htk : nx.take (k + 1) = nx.take k ++ [⟨d, cn⟩] := by rw [List.take_add_one, HX.out]; rfl
      have HO9 : Hid (OwnB wz wp.heap.size 5 (.slice A9 (m + 1 + 2 * 1) c9) (preB ⟨(S : Int), ep, nx, ml, sn⟩ ++ nxsB (nx.take (k + 1)))) := by
        show OwnB _ _ _ _ _
        rw [htk, nxsB_snoc, nxB]
        simpa [beL] using ho9
      have HB9 : Hid (Below wp.heap.size wp wz) := HBr.out.trans ((HWW.out.mono hzr).trans (hIz.1.below (by omega) (fun i hi => by omega))); have hm9 : m + 1 + 2 * 1 = 4 + 3 * (k + 1) := by have := HMM.out; omega
      have HM9 := Lib.hid hm9; clear hIz hLz ho9 htk hm9
      dsimp only [Exit.inBlock, Exit.then]
      go_wp2_with fail
      exact ⟨⟨k + 1, A9, m + 1 + 2 * 1, c9, by simp, by omega, by simp, HM9.out, HO9.out, HB9.out⟩, by simp only [intOf]; omega⟩
    have hkn : k = n1 := by omega
    subst hkn; have htn : nx.take k = nx := List.take_of_length_le (by omega); have ho := HOr.out; rw [htn] at ho; have HOr := Lib.hid ho; have hlr := HLR.out; rw [htn] at hlr; have HLR := Lib.hid hlr; have G1 := Lib.hid ((HBr.out.block w.heap.size hw1).trans G1.out); have a3 := cell_of_cells G1.out 3; simp at a3; clear htn ho hlr
    go_wp2_with fail
    have hn2r : ∀ x ∈ [(n2 : Int)], 0 ≤ x ∧ x ≤ 65535 := by simp; omega
    refine (lay_lit [(n2 : Int)] 1 rfl _ HOr.out HLR.out (by omega) hn2r (by omega)).mono ?_; rintro e5 w5 ⟨A5, c5, rfl, ho5, hb5⟩; have HB5 : Hid (Below wp.heap.size wp w5) := HBr.out.trans (hb5.mono hzr); have hz5 := HB5.out.size; have HO5 := Lib.hid ho5; have G1 := Lib.hid ((hb5.block w.heap.size (by omega)).trans G1.out); have a3 := cell_of_cells G1.out 3; simp at a3; obtain ⟨PR, hPR⟩ : ∃ PR, PR = preB ⟨(S : Int), ep, nx, ml, sn⟩ ++ nxsB nx ++ beL [(n2 : Int)] := ⟨_, rfl⟩; have hprl : PR.length = m + 2 * 1 := by rw [hPR, List.length_append, HLR.out, beL_len]; rfl
    rw [← hPR] at HO5; have HPR := Lib.hid hPR; have HPRL := Lib.hid hprl; have hby := HOK.out.by_; simp only at hby; clear ho5 hb5 hPR hprl hn2r
    go_wp2_with fail
    go_loopw [61, 5] (fun i v wr => ∃ (k : Nat) (A' : Option Addr) (p c' : Nat), i = .int .i64 k ∧ k ≤ n2 ∧ v = .slice A' p c' ∧ p = m + 2 * 1 + (7 * k + Sn.bytes (ml.take k)) ∧ Hid (OwnB wr wp.heap.size 5 (.slice A' p c') (PR ++ mssB (ml.take k)) ∧ Below wp.heap.size wp wr)) (fun i _ _ => n2 - (intOf i).toNat)
    case atStart => exact ⟨0, A5, m + 2 * 1, c5, rfl, Nat.zero_le _, rfl, by simp [Sn.bytes], by simpa [mssB] using HO5.out, HB5.out⟩
    case round =>
      obtain ⟨j, A', p, c', rfl, hj, rfl, hp, hO, hb⟩ := hrel; have HOr := Lib.hid hO; have HBr := Lib.hid hb; have hzr := hb.size; have HBw : Hid (Below w.heap.size w wr) := HB1.out.trans (hb.mono (by omega)); have hbt : Sn.bytes (ml.take j) ≤ Sn.bytes ml := by
        have := bytes_append (ml.take j) (ml.drop j); rw [List.take_append_drop] at this; omega
      have hlr : (PR ++ mssB (ml.take j)).length = p := by
        rw [List.length_append, HPRL.out, mssB_len, List.length_take, Nat.min_eq_left (by omega), hp]
      have HLR := Lib.hid hlr; have HPP := Lib.hid hp; have hp1 : 0 < p := by omega
      have hp2 : p ≤ 2000000 := by omega
      clear hO hb hlr hp hbt
      by_cases hlt : j < n2
      · obtain ⟨b, off, x, cs, rfl, hB, hbl, hx, hcs, hlen, hcell⟩ := (HN.out.hd.below keeps_ms HBw.out).at' hlt; unfold EMs at hcs; obtain ⟨Ad, cd, rfl, hrd⟩ := hcs; have c0 := hcell 0 _ rfl; have c1 := hcell 1 _ rfl; have c2 := hcell 2 _ rfl; have c3 := hcell 3 _ rfl; have c4 := hcell 4 _ rfl; rw [Nat.add_zero] at c0; have hck := appB_in HOK.out.ap x (List.mem_of_getElem? hx); have hln := (chkM_in hck).2.2.2; have HX := Lib.hid hx; have HRD := Lib.hid hrd.1; obtain ⟨⟨io, id, ie, ic⟩, dl⟩ := x; simp only at c0 c1 c2 c3 c4 hck hln; obtain ⟨nd, hnd⟩ : ∃ nd, nd = dl.length := ⟨_, rfl⟩; rw [← hnd] at c4 hck hln; have HND := Lib.hid hnd; have HCK := Lib.hid hck; clear hcell hlen hx hrd hnd hck
        go_wp2_with fail
        obtain ⟨W, hW⟩ : ∃ W, W = wr.alloc (.cells #[.int .i64 io, .int .i64 id, .int .i64 ie, .int .i64 ic, .slice Ad nd cd] 54) := ⟨_, rfl⟩; rw [← hW]; have hWW : Below wr.heap.size wr W := by rw [hW]; exact (Below.refl _ _).alloc (Nat.le_refl _) _
        have hpu := put_ok ⟨io, id, ie, ic⟩ Ad nd cd dl W (by have := HRD.out.below hWW; rw [HND.out]; exact this) HCK.out; unfold msgv at hpu; refine hpu.mono ?_; rintro e9 w9 ⟨A9, c9, rfl, ho9, hb9⟩; have hW9 := hWW.size; have hz9 := hb9.size; have HO9 := Lib.hid (own_below (own_below HOr.out hWW) hb9); have HB9 := Lib.hid (HBr.out.trans ((hWW.trans (hb9.mono hW9)).mono hzr)); have HRp := Lib.hid (OwnB.rd ho9 (by rw [List.length_append, idB_len, HND.out]) (by omega)); have HGA0 : Hid (∀ q, Value.ownBlock (.slice A9 (6 + nd) c9) = some q → wr.heap.size ≤ q ∧ q < w9.heap.size) := fun q hq => by have := (OwnB.row ho9 (by rw [List.length_append, idB_len, HND.out])).lt q hq; exact ⟨by omega, this.2⟩
        have HA0 : Hid (∀ bq oq, A9 = some ⟨bq, oq, none⟩ → Value.ownBlock (.slice (some ⟨bq, oq, none⟩) (6 + nd) c9) = some bq) := fun bq oq _ => rfl
        clear hpu hW hWW ho9 hb9 c0 c1 c2 c3 c4; have hw8 : IntKind.u8.wrap ((6 : Int) + (nd : Int)) = 6 + (nd : Int) := IntWalk.u8_in _ (by omega); have hX6 : (0 : Int) ≤ 6 + (nd : Int) ∧ 6 + (nd : Int) ≤ 255 := by omega
        have HGA : Hid (∀ q, Value.ownBlock (.slice A9 (6 + nd) c9) = some q → wr.heap.size ≤ q ∧ q < w9.heap.size) := HGA0.out; have HOB : Hid (∀ q, Value.ownBlock (.slice A' p c') = some q → q < wr.heap.size) := fun q hq => (OwnB.row HOr.out HLR.out).lt q hq |>.2
        go_wp2_with (first | (refine wpList_byte rfl (.tmp 70) (.tmp 74) rfl rfl rfl HO9.out HLR.out (by omega) (by omega) hX6 ?_; intro A7 c7 w7 ho7 hb7 hq7; have HO7 := Lib.hid (OwnB.row ho7 (by rw [List.length_append, HLR.out]; rfl)); have HB7 := Lib.hid (HB9.out.trans hb7); have HR7 := Lib.hid (HRp.out.keep hb7.size (fun bq oq eq hbq => hq7 bq hbq (fun hh => by have h8 := HOB.out bq hh; have h9 := (HGA.out bq (by rw [eq]; exact HA0.out bq oq eq)).1; omega))); clear ho7 hb7 hq7) | ((with_reducible show wpList _ _ _ (⟨some 77, _, _, _, _, _⟩ :: _) _ _); refine wpList_app _ rfl elemB (.tmp 75) (.tmp 76) rfl rfl HO7.out rfl HR7.out.src (p + 1 + (6 + nd)) rfl (by omega) (by have := HB7.out.size; omega) ?_; intro A8 c8 w8 hown8 hg8 hat8; have HB8 := Lib.hid (HB7.out.trans (below_app HO7.out hg8 (by have := HB7.out.size; omega))); have HO8 := Lib.hid hown8; clear hown8 hg8 hat8) | fail)
        have htk : ml.take (j + 1) = ml.take j ++ [⟨⟨io, id, ie, ic⟩, dl⟩] := by rw [List.take_add_one, HX.out]; rfl
        refine ⟨⟨j + 1, A8, p + 1 + (6 + nd), c8, by simp, by omega, rfl, ?_, ?_, HB8.out⟩, by simp only [intOf]; omega⟩
        · have h8 := HPP.out; have h9 : Sn.bytes [⟨⟨io, id, ie, ic⟩, dl⟩] = nd := by rw [HND.out]; simp [Sn.bytes]
          rw [htk, bytes_append, h9]; omega
        · refine OwnB.of HO8.out _ ?_; have e6 : b1 (6 + (nd : Int)) = UInt8.ofNat (6 + dl.length) := by
            have : (6 + (nd : Int)).toNat = 6 + dl.length := by have := HND.out; omega
            rw [b1, this]
          rw [htk, mssB_snoc, msB, e6]; simp [bs]
      have hjn : j = n2 := by omega
      subst hjn; have htn : ml.take j = ml := List.take_of_length_le (by omega); have ho := HOr.out; rw [htn] at ho; have HOr := Lib.hid ho; have hlr := HLR.out; rw [htn] at hlr; have HLR := Lib.hid hlr; have G1 := Lib.hid ((HBr.out.block w.heap.size (by omega)).trans GP.out); have a4 := cell_of_cells G1.out 4; simp at a4; clear htn ho hlr
      go_wp2_with fail
      have hn3r : ∀ x ∈ [(n3 : Int)], 0 ≤ x ∧ x ≤ 65535 := by simp; omega
      refine (lay_lit [(n3 : Int)] 1 rfl _ HOr.out HLR.out (by omega) hn3r (by omega)).mono ?_; rintro e6 w6 ⟨A6, c6, rfl, ho6, hb6⟩; have HB6 : Hid (Below wp.heap.size wp w6) := HBr.out.trans (hb6.mono hzr); have hz6 := HB6.out.size; have HO6 := Lib.hid ho6; have G1 := Lib.hid ((hb6.block w.heap.size (by omega)).trans G1.out); have a4 := cell_of_cells G1.out 4; simp at a4; obtain ⟨PS, hPS⟩ : ∃ PS, PS = PR ++ mssB ml ++ beL [(n3 : Int)] := ⟨_, rfl⟩; have hpsl : PS.length = p + 2 * 1 := by rw [hPS, List.length_append, HLR.out, beL_len]; rfl
      rw [← hPS] at HO6; have HPS := Lib.hid hPS; have HPSL := Lib.hid hpsl; have hgp := HOK.out.gaps; simp only at hgp; clear ho6 hb6 hPS hpsl hn3r
      go_wp2_with fail
      go_loopw [88, 5] (fun i v wr => ∃ (z : Nat) (A' : Option Addr) (r c' : Nat), i = .int .i64 z ∧ z ≤ n3 ∧ v = .slice A' r c' ∧ r = p + 2 * 1 + (7 * z + 2 * gaps (sn.take z)) ∧ Hid (OwnB wr wp.heap.size 5 (.slice A' r c') (PS ++ mksB (sn.take z)) ∧ Below wp.heap.size wp wr)) (fun i _ _ => n3 - (intOf i).toNat)
      case atStart => exact ⟨0, A6, p + 2 * 1, c6, rfl, Nat.zero_le _, rfl, by simp [gaps], by simpa [mksB] using HO6.out, HB6.out⟩
      case round =>
        obtain ⟨z, A', r, c', rfl, hz, rfl, hr, hO, hb⟩ := hrel; have HOr := Lib.hid hO; have HBr := Lib.hid hb; have hzr := hb.size; have HBw : Hid (Below w.heap.size w wr) := HB1.out.trans (hb.mono (by omega)); have hgt := gaps_take sn z; have hgt2 := gaps_take sn (z + 1); have hlr : (PS ++ mksB (sn.take z)).length = r := by
          rw [List.length_append, HPSL.out, mksB_len, List.length_take, Nat.min_eq_left (by omega), hr]
        have HLR := Lib.hid hlr; have HRR := Lib.hid hr; have hp1 : 0 < r := by omega
        have hp2 : r ≤ 4000000 := by omega
        clear hO hb hlr hr hgt
        by_cases hlt : z < n3
        · obtain ⟨b, off, x, cs, rfl, hB, hbl, hx, hcs, hlen, hcell⟩ := HN.out.sn.at' hlt; obtain ⟨Ad, cd, rfl, hrd⟩ := hcs; have c0 := (HBw.out.cell (p := ⟨b, off + z * 4 + 0, none⟩) hbl).trans (hcell 0 _ rfl); have c1 := (HBw.out.cell (p := ⟨b, off + z * 4 + 1, none⟩) hbl).trans (hcell 1 _ rfl); have c2 := (HBw.out.cell (p := ⟨b, off + z * 4 + 2, none⟩) hbl).trans (hcell 2 _ rfl); have c3 := (HBw.out.cell (p := ⟨b, off + z * 4 + 3, none⟩) hbl).trans (hcell 3 _ rfl); have hbl2 : b < wr.heap.size := by have := HBw.out.size; omega
          rw [Nat.add_zero] at c0; have hri := rightB_in (marksB_in HOK.out.mks x (List.mem_of_getElem? hx)); have hmi := moreB_in hri.2.2.2.1; have htk : sn.take (z + 1) = sn.take z ++ [x] := by rw [List.take_add_one, hx]; rfl
          have hgx : x.m.length ≤ 256 := by
            rw [htk, gaps_append] at hgt2; have h9 : gaps [x] = x.m.length := by simp [gaps]
            omega
          obtain ⟨xo, xe, xu, xm⟩ := x; simp only at c0 c1 c2 c3 hri hmi hgx; obtain ⟨nd, hnd⟩ : ∃ nd, nd = xm.length := ⟨_, rfl⟩; rw [← hnd] at c3 hgx; have HND := Lib.hid hnd; have HTK := Lib.hid htk; have HRD : Hid (RdE EInt 1 w B Ad nd cd xm) := by show RdE _ _ _ _ _ _ _ _; rw [hnd]; exact hrd
          have HMI : Hid (∀ y ∈ xm, 0 ≤ y ∧ y ≤ 65535) := fun y hy => by have := hmi y hy; omega
          have HB8 : Hid (0 ≤ xo ∧ xo ≤ 255) := ⟨by omega, by omega⟩; have HXS : Hid (∀ y ∈ [xe, xu, (nd : Int)], 0 ≤ y ∧ y ≤ 65535) := by show ∀ y ∈ _, _; simp; omega
          have hdw : IntKind.u8.wrap xo = xo := IntWalk.u8_in _ (by omega); clear hcell hlen hx hrd hnd htk hri hmi hgt2
          go_wp2_with fail
          obtain ⟨W, hW⟩ : ∃ W, W = wr.alloc (.cells #[.int .i64 xo, .int .i64 xe, .int .i64 xu, .slice Ad nd cd] 58) := ⟨_, rfl⟩; rw [← hW]; have hWs : W.heap.size = wr.heap.size + 1 := by rw [hW]; simp
          have hbW : wr.heap.size < W.heap.size := by omega
          have i0 : W.cell? ⟨wr.heap.size, 0, none⟩ = some (.int .i64 xo) := by rw [hW]; exact World.cell?_alloc_mark wr _ _ _ 0
          have i1 : W.cell? ⟨wr.heap.size, 1, none⟩ = some (.int .i64 xe) := by rw [hW]; exact World.cell?_alloc_mark wr _ _ _ 1
          have i2 : W.cell? ⟨wr.heap.size, 2, none⟩ = some (.int .i64 xu) := by rw [hW]; exact World.cell?_alloc_mark wr _ _ _ 2
          have i3 : W.cell? ⟨wr.heap.size, 3, none⟩ = some (.slice Ad nd cd) := by rw [hW]; exact World.cell?_alloc_mark wr _ _ _ 3
          have hWW : Below wr.heap.size wr W := by rw [hW]; exact (Below.refl _ _).alloc (Nat.le_refl _) _
          obtain ⟨g, rfl, hg0, hgw⟩ : ∃ g, A' = some ⟨g, 0, none⟩ ∧ wp.heap.size ≤ g ∧ g < wr.heap.size := by
            obtain ⟨g, h1, h2, h3⟩ := OwnB.at_ HOr.out HLR.out (by omega); exact ⟨g, h1, h2, h3⟩
          have HOW := Lib.hid (own_below HOr.out hWW); have HWW := Lib.hid hWW; have hgW : g < W.heap.size := by omega
          have hgn : wr.heap.size ≠ g := by omega
          clear hW hWW c0 c1 c2 c3; refine Free.wp_seq3 (I := fun L w' => Kept (fun b => b = g) W w' ∧ (L 5 = false → w'.heap[g]? = W.heap[g]?)) (Gr := fun j x y => Kept (fun b => b = g ∧ j = 5) x y) (by kernel_rfl) (by kernel_rfl) ⟨(Kept.refl _ _).drew, fun _ => rfl⟩ ?_; refine Free.Seq3.val ?_ (fun _ => Kept.refl _ _) (fun _ _ h => h) (fun a w1 L hI hp => ?_) ?_; rotate_left
          · have e5 := hp.sl 5; simp at e5; refine ⟨Free.wn, ?_⟩; clear hp; go_simp; rfl
          refine Free.Seq3.val ?_ (fun _ => Kept.refl _ _) (fun _ _ h => h) (fun a w1 L hI hp => ?_) ?_; rotate_left
          · have e13 := hp.sl 13; simp at e13; refine ⟨Free.wn, ?_⟩; clear hp; go_simp; rfl
          refine Free.Seq3.val ?_ (fun _ => Kept.refl _ _) (fun _ _ h => h) (fun a w1 L hI hp => ?_) ?_; rotate_left
          · have e93 := hp.b 1 0; have ki0 : w1.cell? ⟨wr.heap.size, 0, none⟩ = _ := (World.cell?_of_block (w := W) (a := ⟨wr.heap.size, 0, none⟩) (hI.1.block wr.heap.size hbW hgn)).trans i0; refine ⟨Free.wn, ?_⟩; clear hp; go_simp; rfl
          refine Free.Seq3.val ?_ (fun _ => Kept.refl _ _) (fun _ _ h => h) (fun a w1 L hI hp => ?_) ?_; rotate_left
          · have e94 := hp.b 2 0; refine ⟨Free.wn, ?_⟩; clear hp; go_simp; rfl
          refine Free.Seq3.op (T := fun v w' => ∃ p, v = .slice (some ⟨p, 0, none⟩) 1 1 ∧ W.heap.size ≤ p ∧ w'.heap[p]? = some (.cells #[.int .u8 xo] 5 (0, 0))) (fun j hj hr v x y ⟨p, e, h1, h2⟩ hg => ⟨p, e, h1, (hg.block p (Array.getElem?_eq_some_iff.1 h2).1 (fun h => by omega)).trans h2⟩) (fun a w1 L hI hp => ?_) ?_
          · have e95 := hp.b 3 0; have hsz := hI.1.size; refine ⟨Free.wn, .slice (some ⟨w1.heap.size, 0, none⟩) 1 1, w1.alloc (.cells #[.int .u8 xo] 5), ?_, ⟨_, rfl, hsz, heap_alloc_new w1 _⟩, (Kept.refl _ _).alloc _, hI.1.alloc _, fun h => (Below.heap_alloc w1 _ g (by omega)).trans (hI.2 h)⟩; clear hp hI; go_simp
          refine Free.Seq3.op (T := fun v w' => ∃ A5 c5, v = .slice A5 (r + 1) c5 ∧ OwnB w' wp.heap.size 5 (.slice A5 (r + 1) c5) ((PS ++ mksB (sn.take z)) ++ [b1 xo])) (fun j hj hr v x y ⟨A5, c5, e, h⟩ hg => ⟨A5, c5, e, row_keep h fun q hq => hg.block q (h.lt q hq).2 (fun hh => hj hh.2)⟩) (fun a w1 L hI hp => ?_) ?_
          · have e92 := hp.b 0 4; have hf : L 5 = false := hp.fresh; have hgb := hI.2 hf; have hsz := hI.1.size; obtain ⟨p, e96, hp1, hp2⟩ := hp.back 4 0 rfl rfl rfl rfl rfl; have hO := row_keep (OwnB.row HOW.out HLR.out) (fun q hq => by injection hq with hq; subst hq; exact hgb); obtain ⟨A5, c5, w5, hr, ho5, hg5, ha5⟩ := run_app (P := Try.prog) w1 elemB 28 hO 1 (src_blk hp2 rfl) (N := r + 1) rfl (by omega) (by omega); refine ⟨Free.wn, .slice A5 (r + 1) c5, w5, Free.exec_app (.tmp 92) (.tmp 96) rfl (Free.eval_tmp e92) (Free.eval_tmp e96) hr, ⟨A5, c5, rfl, OwnB.of ho5 _ (by rw [bs_append]; simp [bs, bv1 HB8.out.1 HB8.out.2])⟩, (Kept.refl _ _).grown hg5 (fun q hq => .inl ⟨by injection hq with hq; exact hq.symm, rfl⟩), hI.1.grown hg5 (fun q hq => .inl (by injection hq with hq; exact hq.symm)), fun h => by simp [Free.upd] at h⟩
          refine Free.Seq3.val ?_ (fun _ => Kept.refl _ _) (fun _ _ h => h) (fun a w1 L hI hp => ?_) ?_; rotate_left
          · have e13 := hp.sl 13; simp at e13; refine ⟨Free.wn, ?_⟩; clear hp; go_simp; rfl
          refine Free.Seq3.val ?_ (fun _ => Kept.refl _ _) (fun _ _ h => h) (fun a w1 L hI hp => ?_) ?_; rotate_left
          · have e98 := hp.b 6 0; have ki1 : w1.cell? ⟨wr.heap.size, 1, none⟩ = _ := (World.cell?_of_block (w := W) (a := ⟨wr.heap.size, 1, none⟩) (hI.1.block wr.heap.size hbW hgn)).trans i1; refine ⟨Free.wn, ?_⟩; clear hp; go_simp; rfl
          refine Free.Seq3.val ?_ (fun _ => Kept.refl _ _) (fun _ _ h => h) (fun a w1 L hI hp => ?_) ?_; rotate_left
          · have e13 := hp.sl 13; simp at e13; refine ⟨Free.wn, ?_⟩; clear hp; go_simp; rfl
          refine Free.Seq3.val ?_ (fun _ => Kept.refl _ _) (fun _ _ h => h) (fun a w1 L hI hp => ?_) ?_; rotate_left
          · have e100 := hp.b 8 0; have ki2 : w1.cell? ⟨wr.heap.size, 2, none⟩ = _ := (World.cell?_of_block (w := W) (a := ⟨wr.heap.size, 2, none⟩) (hI.1.block wr.heap.size hbW hgn)).trans i2; refine ⟨Free.wn, ?_⟩; clear hp; go_simp; rfl
          refine Free.Seq3.val ?_ (fun _ => Kept.refl _ _) (fun _ _ h => h) (fun a w1 L hI hp => ?_) ?_; rotate_left
          · have e13 := hp.sl 13; simp at e13; refine ⟨Free.wn, ?_⟩; clear hp; go_simp; rfl
          refine Free.Seq3.val ?_ (fun _ => Kept.refl _ _) (fun _ _ h => h) (fun a w1 L hI hp => ?_) ?_; rotate_left
          · have e102 := hp.b 10 0; have ki3 : w1.cell? ⟨wr.heap.size, 3, none⟩ = _ := (World.cell?_of_block (w := W) (a := ⟨wr.heap.size, 3, none⟩) (hI.1.block wr.heap.size hbW hgn)).trans i3; refine ⟨Free.wn, ?_⟩; clear hp; go_simp; rfl
          refine Free.Seq3.val ?_ (fun _ => Kept.refl _ _) (fun _ _ h => h) (fun a w1 L hI hp => ?_) ?_; rotate_left
          · have e103 := hp.b 11 0; refine ⟨Free.wn, ?_⟩; clear hp; go_simp; rfl
          refine Free.Seq3.op (T := fun v w' => ∃ p, v = .slice (some ⟨p, 0, none⟩) 3 3 ∧ W.heap.size ≤ p ∧ w'.heap[p]? = some (.cells #[.int .i64 xe, .int .i64 xu, .int .i64 (nd : Int)] 3 (0, 0))) (fun j hj hr v x y ⟨p, e, h1, h2⟩ hg => ⟨p, e, h1, (hg.block p (Array.getElem?_eq_some_iff.1 h2).1 (fun h => by omega)).trans h2⟩) (fun a w1 L hI hp => ?_) ?_
          · have e99 := hp.b 7 5; have e101 := hp.b 9 3; have e104 := hp.b 12 0; have hsz := hI.1.size; refine ⟨Free.wn, .slice (some ⟨w1.heap.size, 0, none⟩) 3 3, w1.alloc (.cells #[.int .i64 xe, .int .i64 xu, .int .i64 (nd : Int)] 3), ?_, ⟨_, rfl, hsz, heap_alloc_new w1 _⟩, (Kept.refl _ _).alloc _, hI.1.alloc _, fun h => (Below.heap_alloc w1 _ g (by omega)).trans (hI.2 h)⟩; clear hp hI; go_simp
          refine Free.Seq3.call (T := fun v w' => ∃ A5 c5, v = .slice A5 (r + 1 + 2 * 3) c5 ∧ OwnB w' wp.heap.size 5 (.slice A5 (r + 1 + 2 * 3) c5) ((PS ++ mksB (sn.take z)) ++ [b1 xo] ++ beL [xe, xu, (nd : Int)])) (fun j hj hr v x y ⟨A5, c5, e, h⟩ hg => ⟨A5, c5, e, row_keep h fun q hq => hg.block q (h.lt q hq).2 (fun hh => by have h9 := hr 40; rw [hh.2] at h9; exact absurd (h9.symm.trans (by kernel_rfl : _ = true)) (by decide))⟩) (fun a w1 L hI hp => ?_) ?_
          · skip
            have hsz := hI.1.size; obtain ⟨A5, c5, e97, ho5⟩ := hp.back 5 8 rfl rfl rfl rfl rfl; obtain ⟨p, e105, hp1, hp2⟩ := hp.back 13 0 rfl rfl rfl rfl rfl; have d5 : L 5 = true := hp.did 5 40 (by kernel_rfl); refine ⟨Free.wn, 21, #[.slice A5 (r + 1) c5, .slice (some ⟨p, 0, none⟩) 3 3], ?_, ?_⟩
            · clear hp; go_simp
            · refine (lay_any A5 (r + 1) c5 _ _ 3 3 [xe, xu, (nd : Int)] wp.heap.size 0 w1 ho5 (by rw [List.length_append, HLR.out]; rfl) (by omega) (rdE_blk (xs := [xe, xu, (nd : Int)]) hp2 rfl (by omega)) HXS.out (by omega)).mono ?_; rintro e w' ⟨A6, c6, rfl, h1, h2⟩; exact ⟨_, rfl, ⟨A6, c6, rfl, h1⟩, Kept.all h2, hI.1.trans (Kept.all h2) (S' := fun b => b = g) (fun _ _ h => h), fun h => by have h' : L 5 = false := h; rw [d5] at h'; cases h'⟩
          refine Free.Seq3.op (T := fun v w' => ∃ A5 c5, v = .slice A5 (r + 1 + 2 * 3) c5 ∧ OwnB w' wp.heap.size 5 (.slice A5 (r + 1 + 2 * 3) c5) ((PS ++ mksB (sn.take z)) ++ [b1 xo] ++ beL [xe, xu, (nd : Int)])) (fun j hj hr v x y ⟨A5, c5, e, h⟩ hg => ⟨A5, c5, e, row_keep h fun q hq => hg.block q (h.lt q hq).2 (fun hh => by have h9 := hr 40; rw [hh.2] at h9; exact absurd (h9.symm.trans (by kernel_rfl : _ = true)) (by decide))⟩) (fun a w1 L hI hp => ?_) ?_
          · skip
            obtain ⟨A5, c5, e106, ho5⟩ := hp.back 14 0 rfl rfl rfl rfl rfl; refine ⟨Free.wn, .slice A5 (r + 1 + 2 * 3) c5, w1, ?_, ⟨A5, c5, rfl, ho5⟩, Kept.refl _ _, hI⟩; clear hp; go_simp
          refine Free.Seq3.done (by simp) (fun wz L hIz hLz => ?_); simp only [List.reverse_cons, List.reverse_nil, List.nil_append, List.cons_append, Free.All, Free.eqF, forall_eq]; rintro x4 - x5 - x13 - x14 - _ ⟨A9, c9, rfl, ho9⟩; simp only [Free.putL, Act.put, List.setIfInBounds_toArray, List.set_cons_zero, List.set_cons_succ]; have hzz := hIz.1.size; have hm9 : (PS ++ mksB (sn.take z) ++ [b1 xo] ++ beL [xe, xu, (nd : Int)]).length = r + 1 + 2 * 3 := by
            rw [List.length_append, List.length_append, HLR.out, beL_len]; rfl
          have HM9 := Lib.hid hm9; have HO9 := Lib.hid ho9; have k3 : wz.cell? ⟨wr.heap.size, 3, none⟩ = some (.slice Ad nd cd) := (World.cell?_of_block (w := W) (a := ⟨wr.heap.size, 3, none⟩) (hIz.1.block wr.heap.size hbW hgn)).trans i3; have HB9 : Hid (Below wp.heap.size wp wz) := HBr.out.trans ((HWW.out.mono hzr).trans (hIz.1.below (by omega) (fun i hi => by omega))); have HBz : Hid (Below w.heap.size w wz) := HB1.out.trans (HB9.out.mono (by omega)); clear hIz hLz ho9 hm9
          dsimp only [Exit.inBlock, Exit.then]
          go_wp2_with fail
          refine (lay_any A9 (r + 1 + 2 * 3) c9 _ Ad nd cd xm wp.heap.size B wz HO9.out HM9.out (by omega) (HRD.out.below keeps_int HBz.out) HMI.out (by omega)).mono ?_; rintro e8 w8 ⟨A8, c8, rfl, ho8, hb8⟩; have HO8 : Hid (OwnB w8 wp.heap.size 5 (.slice A8 (r + 1 + 2 * 3 + 2 * nd) c8) (PS ++ mksB (sn.take (z + 1)))) := by
            show OwnB _ _ _ _ _
            rw [HTK.out, mksB_snoc, mkB, ← HND.out]
            simpa using ho8
          have HB8 := Lib.hid (HB9.out.trans (hb8.mono (by omega))); have hr9 : r + 1 + 2 * 3 + 2 * nd = p + 2 * 1 + (7 * (z + 1) + 2 * gaps (sn.take (z + 1))) := by
            have h7 := HRR.out; have h8 : gaps [⟨xo, xe, xu, xm⟩] = nd := by rw [HND.out]; simp [gaps]
            rw [HTK.out, gaps_append, h8]; omega
          have HR9 := Lib.hid hr9; clear ho8 hb8 hr9
          go_wp2_with fail
          exact ⟨⟨z + 1, A8, r + 1 + 2 * 3 + 2 * nd, c8, by simp, by omega, rfl, HR9.out, HO8.out, HB8.out⟩, by simp only [intOf]; omega⟩
        have hzn : z = n3 := by omega
        subst hzn; have htn : sn.take z = sn := List.take_of_length_le (by omega); have ho := HOr.out; rw [htn] at ho; have hlr := HLR.out; rw [htn] at hlr; have hbd : PS ++ mksB sn = bodyB ⟨(S : Int), ep, nx, ml, sn⟩ := by
          rw [HPS.out, HPR.out, bodyB]; simp only [hl2, hl3, List.append_assoc]
        rw [hbd] at ho hlr; obtain ⟨BD, hBD⟩ : ∃ BD, BD = bodyB ⟨(S : Int), ep, nx, ml, sn⟩ := ⟨_, rfl⟩; rw [← hBD] at ho hlr; have HOB := Lib.hid ho; have HLB := Lib.hid hlr; have HBD := Lib.hid hBD; clear htn ho hlr hbd hBD
        go_wp2_with fail
        have hrd := OwnB.rd HOB.out HLB.out (by omega); have hfl : [BD].flatten = BD := by simp
        refine (sum_any _ _ _ [BD] _ (RdL.single hrd _)).mono ?_; rintro e4 w4 ⟨rfl, rfl⟩; rw [hfl]; obtain ⟨CS, hCS⟩ : ∃ CS, CS = Crc.sum BD := ⟨_, rfl⟩; rw [← hCS]; have hcs : CS < 4294967296 := by rw [hCS, Crc.sum]; omega
        have hcw : IntKind.u64.wrap (CS : Int) = (CS : Int) := IntWalk.u64_in _ (by omega); have hAW : Below wr.heap.size wr (wr.alloc (.cells #[.slice A' r c'] 28)) := (Below.refl _ _).alloc (Nat.le_refl _) _; have HRW := Lib.hid (hrd.below hAW); have HAW := Lib.hid hAW; have HCS := Lib.hid hCS; clear hrd hfl hCS hAW
        go_wp2_with fail
        refine (bput4 A' r c' BD CS _ HRW.out (by omega) hcs).mono ?_; rintro e5 w5 ⟨A9, c9, rfl, ho9, hb9⟩; have HO9 := Lib.hid ho9; have hlb := HLB.out; have HBF : Hid (Below w.heap.size w w5) := HBw.out.trans ((HAW.out.trans (hb9.mono (by simp))).mono (by have := HBw.out.size; omega)); have hws := HBw.out.size; clear ho9 hb9
        go_wp2_with fail
        go_ret2
        have hpb : PB = BD ++ be CS 4 := by rw [HPBE.out, putB, HCS.out, HBD.out]
        rw [hpb]; exact ⟨A9, r + 4, c9, rfl, by rw [List.length_append, be_len, hlb], row_base6 HO9.out (by simp; omega), HBF.out⟩
end Go.Proofs.Ytcnlgcmooegfkaa
