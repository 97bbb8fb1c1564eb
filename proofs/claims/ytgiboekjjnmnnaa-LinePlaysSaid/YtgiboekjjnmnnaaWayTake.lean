/-
  THE WALK OF THE DOCUMENT'S Take.
-/
import Derived.Test.YtgiboekjjnmnnaaWayMore
import Derived.ArgAppend
namespace Go.Proofs.Ytgiboekjjnmnnaa
open Go.RowKit

/-- an append onto an empty slice without room: a new row, or what stood there -/
theorem run_app0 {P : Program} (w : World) {t e : TypeId} {z : Value} {size bytes : Nat} (hE : ElemOf P t e z size bytes) (ty : TypeId) (A0 : Option Addr) {A : Option Addr} {m : Nat} (c : Nat) {news : List Value} (hs : Src w A m size news) (hb : m * bytes ≤ 140737488355328) :
    ∃ A' c' w', (Builtin.append_ #[t, t] ty #[.slice A0 0 0, .slice A m c]).run P w = .ok (.slice A' m c') w' ∧ RdC w' A' m c' size news ∧ w.grownBy w' none ∧ (0 < m → ∀ b off, A' = some ⟨b, off, none⟩ → w.heap.size ≤ b) := by
  obtain ⟨i, hi, hz, hsz, hby⟩ := info_parts hE.info
  have hm : m ≤ 140737488355328 := Nat.le_trans (Nat.le_mul_of_pos_right m hE.wide) hb
  rcases Nat.eq_zero_or_pos m with h0 | h0
  · subst h0
    have hn : news = [] := List.eq_nil_of_length_eq_zero (by simpa using hs.len)
    subst hn
    refine ⟨A0, 0, w, ?_, RdC.nil _ _ _ _, World.grownBy.refl w _, fun h => absurd h (by omega)⟩
    cases A with
    | none =>
      cases A0 with
      | none => simp [Builtin.append_, run_underlying hE.ht, sizeOf, typeInfo, hi, Builtin.lenOf, Builtin.firstCells]
      | some a => simp [Builtin.append_, run_underlying hE.ht, sizeOf, typeInfo, hi, Builtin.lenOf, Builtin.firstCells, storeCells]
    | some ad =>
      have hf := run_firstCells_some (P := P) w i.size 0 ad 0 c [] (by simp) (by simp)
      cases A0 with
      | none => simp [Builtin.append_, run_underlying hE.ht, sizeOf, typeInfo, hi, Builtin.lenOf, hf]
      | some a => simp [Builtin.append_, run_underlying hE.ht, sizeOf, typeInfo, hi, Builtin.lenOf, hf, storeCells]
  · obtain ⟨ad, rfl, hc⟩ := hs.at_ h0
    have key : ∃ v' w', (Builtin.append_ #[t, t] ty #[.slice A0 0 0, .slice (some ad) m c]).run P w = .ok v' w' ∧ w'.ownsRow w.heap.size e size v' m news ∧ w.grownBy w' none := by
      cases A0 with
      | none =>
        obtain ⟨A', c', w', h1, h2, h3, _⟩ := run_app w hE ty (World.ownsRow_nil w w.heap.size e size) c hs (Nat.zero_add m) hb (Nat.le_refl _)
        exact ⟨_, w', h1, by simpa using h2, h3⟩
      | some a =>
        obtain ⟨v', w', h1, h2, h3⟩ := run_append_arg_grows (P := P) w t ty e i z size bytes hE.ht hi hz hsz hby hE.zs hE.pos a 0 0 [] (by simp) (by simp) ad m c news hs.len hc (by omega) (by unfold maxLen; omega) (by simpa using hb)
        exact ⟨v', w', h1, by simpa using h2, h3⟩
    obtain ⟨v', w', h1, h2, h3⟩ := key
    obtain ⟨A', c', rfl⟩ := row_form h2
    refine ⟨A', c', w', h1, RdC.of_row h2 (by omega), h3, fun _ b off e => ?_⟩
    subst e
    exact (World.ownsRow.lt h2 b rfl).1

/-- ways that are read, in new memory -/
def TW (w : World) (N : Nat) (ys : List Value) : Free.Fact := fun v w' => ∃ A' c', v = .slice A' N c' ∧ RdC w' A' N c' 2 ys ∧ (0 < N → ∀ b off, A' = some ⟨b, off, none⟩ → w.heap.size + 2 ≤ b)
theorem TW.mono {w : World} {N : Nat} {ys : List Value} (v : Value) (x y : World) (h : TW w N ys v x) (hk : Kept (fun i => i = w.heap.size + 1) x y) : TW w N ys v y := by
  obtain ⟨A', c', rfl, hr, hA⟩ := h
  refine ⟨A', c', rfl, ?_, hA⟩
  rcases Nat.eq_zero_or_pos N with h0 | h0
  · subst h0
    have : ys = [] := List.eq_nil_of_length_eq_zero (by simpa using hr.len)
    subst this
    exact RdC.nil _ _ _ _
  · exact hr.keep hk.size fun b off e hb => hk.block b hb (by have := hA h0 b off e; omega)
def TWB (w : World) (dl : Int) (N : Nat) (ys : List Value) : Free.Fact := fun v w' => ∃ A' c', v = .agg #[.int .i64 dl, .slice A' N c'] ∧ TW w N ys (.slice A' N c') w'
theorem TWB.mono {w : World} {dl : Int} {N : Nat} {ys : List Value} (v : Value) (x y : World) (h : TWB w dl N ys v x) (hk : Kept (fun i => i = w.heap.size + 1) x y) : TWB w dl N ys v y := by
  obtain ⟨A', c', rfl, h⟩ := h
  exact ⟨A', c', rfl, h.mono _ _ _ hk⟩

/-- what the region at Take's end keeps -/
structure KI (w : World) (dl : Int) (sl : Value) (B : Nat) (v : Value) (k : Nat) (xs : List Value) (cs : Bool) (N : Nat) (ys : List Value) (w' : World) : Prop where
  low : Below (w.heap.size + 1) (w.alloc (lbox dl sl)) w'
  res : ∃ x y, w'.heap[w.heap.size + 1]? = some (.cells #[x, y] 38 (0, 0))
  out : w'.ownsRow (w.heap.size + 2) 5 1 v k xs
  fin : cond cs (∃ A' c', w'.heap[w.heap.size + 1]? = some (.cells #[.int .i64 dl, .slice A' N c'] 38 (0, 0)) ∧ TW w N ys (.slice A' N c') w') True
section
variable {w : World} {dl : Int} {sl : Value} {B : Nat} {v : Value} {k : Nat} {xs : List Value} {cs : Bool} {N : Nat} {ys : List Value} {w' : World}
theorem KI.c0 (h : KI w dl sl B v k xs cs N ys w') : w'.cell? ⟨w.heap.size, 0, none⟩ = some (.int .i64 dl) := (h.low.cell (p := ⟨w.heap.size, 0, none⟩) (by simp)).trans (by rw [World.cell?_alloc_mark]; rfl)
theorem KI.c1 (h : KI w dl sl B v k xs cs N ys w') : w'.cell? ⟨w.heap.size, 1, none⟩ = some sl := (h.low.cell (p := ⟨w.heap.size, 1, none⟩) (by simp)).trans (by rw [World.cell?_alloc_mark]; rfl)
theorem KI.lt (h : KI w dl sl B v k xs cs N ys w') : w.heap.size + 2 ≤ w'.heap.size := by obtain ⟨x, y, hr⟩ := h.res; exact (Array.getElem?_eq_some_iff.1 hr).1
theorem KI.stays (h : KI w dl sl B v k xs cs N ys w') : Stays w w' := (Stays.alloc w (lbox dl sl)).trans (.below (h.low.mono (by simp)))
theorem KI.bel (h : KI w dl sl B v k xs cs N ys w') : Below w.heap.size w w' := ((Below.refl w.heap.size w).alloc (Nat.le_refl _) (lbox dl sl)).trans (h.low.mono (by omega))
theorem cond_keep' {ca : Bool} {P Q : Prop} (h : cond ca P True) (f : P → Q) : cond ca Q True := by
  cases ca
  · trivial
  · exact f h
theorem KI.grown (h : KI w dl sl B v k xs cs N ys w') {w2 : World} (hg : w'.grownBy w2 none) : KI w dl sl B v k xs cs N ys w2 := by
  have hlt := h.lt
  have hblk : w2.heap[w.heap.size + 1]? = w'.heap[w.heap.size + 1]? := hg.block _ (by omega) (by simp)
  have hk : Kept (fun i => i = w.heap.size + 1) w' w2 := ⟨hg.os, hg.tape, hg.output, hg.size, fun i hi _ => hg.block i hi (by simp)⟩
  refine ⟨h.low.grown hg (by omega) (by simp), ?_, h.out.kept hg (by by_cases e : v.ownBlock = none; exact .inl e; exact .inr e), cond_keep' h.fin ?_⟩
  · obtain ⟨x, y, hr⟩ := h.res
    exact ⟨x, y, hblk.trans hr⟩
  · rintro ⟨A', c', h1, h2⟩
    exact ⟨A', c', hblk.trans h1, h2.mono _ _ _ hk⟩
theorem KI.any (h : KI w dl sl B v k xs false N ys w') (N' : Nat) (ys' : List Value) : KI w dl sl B v k xs false N' ys' w' := ⟨h.low, h.res, h.out, trivial⟩
theorem KI.stored (h : KI w dl sl B v k xs cs N ys w') (A' : Option Addr) (c' : Nat) (hT : TW w N ys (.slice A' N c') w') {cs' : Bool} : KI w dl sl B v k xs cs' N ys ((w'.setCell ⟨w.heap.size + 1, 0, none⟩ (.int .i64 dl)).setCell ⟨w.heap.size + 1, 1, none⟩ (.slice A' N c')) := by
  obtain ⟨x0, y0, hr⟩ := h.res
  have hr2 : ((w'.setCell ⟨w.heap.size + 1, 0, none⟩ (.int .i64 dl)).setCell ⟨w.heap.size + 1, 1, none⟩ (.slice A' N c')).heap[w.heap.size + 1]? = some (.cells #[.int .i64 dl, .slice A' N c'] 38 (0, 0)) := heap_setCell_same _ _ 1 _ _ _ (heap_setCell_same _ _ 0 _ _ _ hr)
  have hk : Kept (fun i => i = w.heap.size + 1) w' ((w'.setCell ⟨w.heap.size + 1, 0, none⟩ (.int .i64 dl)).setCell ⟨w.heap.size + 1, 1, none⟩ (.slice A' N c')) := ((Kept.refl (fun i => i = w.heap.size + 1) w').setCell (p := ⟨w.heap.size + 1, 0, none⟩) (.inl rfl) _).setCell (p := ⟨w.heap.size + 1, 1, none⟩) (.inl rfl) _
  refine ⟨(h.low.setCell (p := ⟨w.heap.size + 1, 0, none⟩) (Nat.le_refl _) _).setCell (p := ⟨w.heap.size + 1, 1, none⟩) (Nat.le_refl _) _, ⟨_, _, hr2⟩, ownsRow_setCell_below (ownsRow_setCell_below h.out (by simp) _) (by simp) _, ?_⟩
  cases cs'
  · trivial
  · exact ⟨A', c', hr2, hT.mono _ _ _ hk⟩
theorem KI.drew (h : KI w dl sl B v k xs cs N ys w') : KI w dl sl B v k xs cs N ys w'.drew := h.grown ⟨rfl, rfl, rfl, Nat.le_refl _, fun _ _ _ => rfl⟩
theorem KI.alloc (h : KI w dl sl B v k xs cs N ys w') (o : Obj) : KI w dl sl B v k xs cs N ys (w'.alloc o) := h.grown ⟨rfl, rfl, rfl, by simp, fun k hk _ => Below.heap_alloc _ _ _ hk⟩
end

set_option maxHeartbeats 2000000 in
theorem rtake_any (w : World) (dl : Int) (A : Option Addr) (n c : Nat) (ws : List (UInt8 × Int)) (h : RdC w A n c 2 (wcs ws)) (hl : ws.length = n) (hn : n ≤ 65536)
    (k : Nat) (hk : k ≤ n) (h1 : ∀ j x, j < k → ws[j]? = some x → x.2 = 0) (h2 : ∀ x, ws[k]? = some x → x.2 ≠ 0) :
    Calls Try.prog 22 #[.agg #[.int .i64 dl, .slice A n c]] w fun e w' => ∃ A2 c2 A3 c3, e = .returned (.tuple #[.agg #[.int .i64 dl, .slice A2 (n - k) c2], .slice A3 k c3]) ∧ RdC w' A2 (n - k) c2 2 (wcs (ws.drop k)) ∧ (0 < n - k → ∀ b off, A2 = some ⟨b, off, none⟩ → w.heap.size ≤ b) ∧ Rd w' A3 k c3 ((ws.take k).map Prod.fst) ∧ (∀ b off, A3 = some ⟨b, off, none⟩ → w.heap.size ≤ b) ∧ Below w.heap.size w w' := by
  have hcap := h.cap
  have HL := Lib.hid hl
  have HR := Lib.hid h
  have H1 := Lib.hid h1
  have H2 := Lib.hid h2
  clear h hl h1 h2
  go_enter Try.func22, Try.ntmps22
  go_wp2_with fail
  go_loopw [4, 5] (fun u i wr => ∃ j : Nat, j ≤ k ∧ i = .int .i64 j ∧ KI w dl (.slice A n c) 0 u j (bs ((ws.take j).map Prod.fst)) false 0 [] wr) (fun _ i _ => n - (intOf i).toNat)
  case atStart =>
    refine ⟨0, Nat.zero_le _, rfl, ((Below.refl _ _).alloc (by simp) _).alloc (by simp) _, ⟨.int .i64 0, .slice none 0 0, ?_⟩, own_empty _ (w.heap.size + 2) _ _ 1 (by simp) (by simp), trivial⟩
    rw [Below.heap_alloc _ _ _ (by simp), show w.heap.size + 1 = (w.alloc (lbox dl (.slice A n c))).heap.size by simp]
    exact heap_alloc_new _ _
  case round =>
    obtain ⟨j, hj, rfl, hK⟩ := hrel
    have k1 := hK.c1
    by_cases hjk : j < k
    · have hjn : j < n := by omega
      have hx : ws[j]? = some (ws[j]'(by rw [HL.out]; exact hjn)) := List.getElem?_eq_getElem _
      obtain ⟨x, hx'⟩ : ∃ x, x = ws[j]'(by rw [HL.out]; exact hjn) := ⟨_, rfl⟩
      rw [← hx'] at hx
      have hz := H1.out j x hjk hx
      obtain ⟨b, off, rfl, hblt, hcell⟩ := HR.out.at' hjn
      have q0 : wr.cell? ⟨b, off + j * 2, none⟩ = some (bv x.1) := (hK.stays.2 ⟨b, off + j * 2, none⟩ hblt).trans (hcell 0 _ (wcs_get ws j x hx).1)
      have q1 : wr.cell? ⟨b, off + j * 2 + 1, none⟩ = some (.int .i64 0) := (hK.stays.2 ⟨b, off + j * 2 + 1, none⟩ hblt).trans ((hcell 1 _ (wcs_get ws j x hx).2).trans (by rw [hz]))
      have HX := Lib.hid (show bs ((ws.take (j + 1)).map Prod.fst) = bs ((ws.take j).map Prod.fst) ++ [bv x.1] by rw [List.take_add_one, hx, List.map_append, bs_append]; rfl)
      have HK := Lib.hid hK
      unfold bv at q0
      clear hK hx hx' hcell hz
      go_wp2_with ((with_reducible show wpList _ _ _ (⟨some 29, _, _, _, _, _⟩ :: _) _ _); refine wpList_app _ rfl elemB (.tmp 21) (.tmp 28) rfl rfl (HK.out.alloc (.cells #[bv x.1] 5)).out rfl (Src.new' wr _ rfl [_] _ 1 1 rfl (by simp [Value.oneCell'])) (j + 1) rfl (by omega) (HK.out.alloc (.cells #[bv x.1] 5)).lt ?_; intro A1 c1 w2 hown2 hg2 hat2)
      have hK1 := HK.out.alloc (.cells #[bv x.1] 5)
      have hlt1 := hK1.lt
      have hrow := fun i hi => (hK1.out.lt i hi).1
      have hblk : w2.heap[w.heap.size + 1]? = (wr.alloc (.cells #[bv x.1] 5)).heap[w.heap.size + 1]? := hg2.block _ (by exact hlt1) (by intro e; have := hrow _ e.symm; omega)
      have HN := Lib.hid (show KI w dl (.slice (some ⟨b, off, none⟩) n c) 0 (.slice A1 (j + 1) c1) (j + 1) (bs ((ws.take (j + 1)).map Prod.fst)) false 0 [] w2 from by
        refine ⟨hK1.low.grown hg2 (Nat.le_of_succ_le hlt1) (fun i hi => by have := hrow i hi; omega), ?_, by rw [HX.out]; exact hown2, trivial⟩
        obtain ⟨x0, y0, hr⟩ := hK1.res
        exact ⟨x0, y0, hblk.trans hr⟩)
      clear hown2 hg2 hat2 hK1 hlt1 hrow hblk HK HX
      go_wp2
      go_roundw
      case rel => exact ⟨j + 1, by omega, by go_num, HN.out⟩
      case measure => simp [intOf]; omega
    · obtain rfl : j = k := by omega
      have HK := Lib.hid hK
      by_cases hjn : j < n
      · have hx : ws[j]? = some (ws[j]'(by rw [HL.out]; exact hjn)) := List.getElem?_eq_getElem _
        obtain ⟨x, hx'⟩ : ∃ x, x = ws[j]'(by rw [HL.out]; exact hjn) := ⟨_, rfl⟩
        rw [← hx'] at hx
        have hz := H2.out x hx
        obtain ⟨b, off, rfl, hblt, hcell⟩ := HR.out.at' hjn
        have q1 : wr.cell? ⟨b, off + j * 2 + 1, none⟩ = some (.int .i64 x.2) := (hK.stays.2 ⟨b, off + j * 2 + 1, none⟩ hblt).trans (hcell 1 _ (wcs_get ws j x hx).2)
        have t1 : (x.2 == 0) = false := by simpa using hz
        have HD := Lib.hid (show RdC w (if c = j then some ⟨b, off, none⟩ else some ⟨b, off + j * 2, none⟩) (n - j) (c - j) 2 ((wcs ws).drop (j * 2)) from by simpa [add_none] using HR.out.drop (k := j) (by omega))
        clear hK hx hx' hcell hz
        go_wp2_with fail
        refine Free.wp_seq2 (I := fun L w' => KI w dl (.slice (some ⟨b, off, none⟩) n c) 0 u4 j (bs ((ws.take j).map Prod.fst)) (L 10) (n - j) (wcs (ws.drop j)) w') (Gr := fun x y => Kept (fun i => i = w.heap.size + 1) x y) (by kernel_rfl) (by kernel_rfl) (HK.out.any (n - j) (wcs (ws.drop j))).drew ?_
        refine Free.Seq2.val ?_ (fun _ => Kept.refl _ _) (fun _ _ h => h) (fun a w1 L hI hp => ?_) ?_
        rotate_left
        · have e1 := hp.slotV 1 (by kernel_rfl) rfl; simp at e1
          refine ⟨Free.want_none rfl, ?_⟩
          clear hp
          go_simp
          rfl
        refine Free.Seq2.val ?_ (fun _ => Kept.refl _ _) (fun _ _ h => h) (fun a w1 L hI hp => ?_) ?_
        rotate_left
        · have e32 := hp.backV 0 0 rfl rfl rfl rfl rfl
          have k0 := hI.c0
          refine ⟨Free.want_none rfl, ?_⟩
          clear hp
          go_simp
          rfl
        refine Free.Seq2.op (T := fun v _ => ∃ A0, v = .slice A0 0 0) (fun _ _ _ h _ => h) (fun a w1 L hI hp => ?_) ?_
        · skip
          refine ⟨Free.want_none rfl, _, _, ?_, ⟨some ⟨w1.heap.size, 0, none⟩, rfl⟩, (Kept.refl _ _).alloc (.cells #[] 61), hI.alloc (.cells #[] 61)⟩
          clear hp
          go_simp
        refine Free.Seq2.val ?_ (fun _ => Kept.refl _ _) (fun _ _ h => h) (fun a w1 L hI hp => ?_) ?_
        rotate_left
        · have e1 := hp.slotV 1 (by kernel_rfl) rfl; simp at e1
          refine ⟨Free.want_none rfl, ?_⟩
          clear hp
          go_simp
          rfl
        refine Free.Seq2.val ?_ (fun _ => Kept.refl _ _) (fun _ _ h => h) (fun a w1 L hI hp => ?_) ?_
        rotate_left
        · have e35 := hp.backV 3 0 rfl rfl rfl rfl rfl
          have k1 := hI.c1
          refine ⟨Free.want_none rfl, ?_⟩
          clear hp
          go_simp
          rfl
        refine Free.Seq2.val ?_ (fun _ => Kept.refl _ _) (fun _ _ h => h) (fun a w1 L hI hp => ?_) ?_
        rotate_left
        · have e5 := hp.slotV 5 (by kernel_rfl) rfl; simp at e5
          refine ⟨Free.want_none rfl, ?_⟩
          clear hp
          go_simp
          rfl
        refine Free.Seq2.val ?_ (fun _ => Kept.refl _ _) (fun _ _ h => h) (fun a w1 L hI hp => ?_) ?_
        rotate_left
        · have e36 := hp.backV 4 1 rfl rfl rfl rfl rfl; have e37 := hp.backV 5 0 rfl rfl rfl rfl rfl
          refine ⟨Free.want_none rfl, ?_⟩
          clear hp
          go_simp
          rfl
        refine Free.Seq2.op (T := TW w (n - j) (wcs (ws.drop j))) (fun v x y h hk => h.mono _ _ _ hk) (fun a w1 L hI hp => ?_) ?_
        · have e38 := hp.backV 6 0 rfl rfl rfl rfl rfl
          obtain ⟨A0, e34⟩ := hp.back 2 4 rfl rfl rfl rfl rfl
          obtain ⟨A9, c9, w9, hrun, h9, hg9, hA9⟩ := run_app0 w1 elemW _ A0 (c - j) ((HD.out.stays hI.stays).src (fun u hu => wcs_one ws u (List.mem_of_mem_drop hu))) (by omega)
          refine ⟨Free.want_none rfl, .slice A9 (n - j) c9, w9, ?_, ⟨A9, c9, rfl, by rw [wcs_drop]; exact h9, fun h0 b off e => Nat.le_trans hI.lt (hA9 h0 b off e)⟩, ⟨hg9.os, hg9.tape, hg9.output, hg9.size, fun i hi _ => hg9.block i hi (by simp)⟩, hI.grown hg9⟩
          exact Free.exec_app (.tmp 34) (.tmp 38) rfl (Free.eval_tmp e34) (Free.eval_tmp e38) hrun
        refine Free.Seq2.op (T := TWB w dl (n - j) (wcs (ws.drop j))) (fun v x y h hk => h.mono _ _ _ hk) (fun a w1 L hI hp => ?_) ?_
        · have e33 := hp.backV 1 6 rfl rfl rfl rfl rfl
          obtain ⟨A9, c9, e39, h9⟩ := hp.back 7 0 rfl rfl rfl rfl rfl
          refine ⟨Free.want_none rfl, .agg #[.int .i64 dl, .slice A9 (n - j) c9], w1, ?_, ⟨A9, c9, rfl, _, _, rfl, h9⟩, Kept.refl _ _, hI⟩
          clear hp
          go_simp
        refine Free.Seq2.val ?_ (fun _ => Kept.refl _ _) (fun _ _ h => h) (fun a w1 L hI hp => ?_) ?_
        rotate_left
        · have e4 := hp.slotV 4 (by kernel_rfl) rfl; simp at e4
          refine ⟨Free.want_none rfl, ?_⟩
          clear hp
          go_simp
          rfl
        refine Free.Seq2.skip rfl (fun _ => True) (fun _ _ _ _ => trivial) (fun a w1 L hI hp => ?_) ?_
        · have e2 := hp.slotV 2 (by kernel_rfl) rfl; simp at e2
          obtain ⟨A9, c9, e40, h9⟩ := hp.back 8 1 rfl rfl rfl rfl rfl
          obtain ⟨x0, y0, hres⟩ := hI.res
          have r0 : w1.cell? ⟨w.heap.size + 1, 0, none⟩ = some x0 := by rw [cell_of_cells hres]; rfl
          have r1 : w1.cell? ⟨w.heap.size + 1, 1, none⟩ = some y0 := by rw [cell_of_cells hres]; rfl
          have f0 : w1.frozen? ⟨w.heap.size + 1, 0, none⟩ = false := frozen_of_row w1 _ 0 _ _ hres
          have f1 : w1.frozen? ⟨w.heap.size + 1, 1, none⟩ = false := frozen_of_row w1 _ 1 _ _ hres
          have hkk : Kept (fun i => i = w.heap.size + 1) w1 ((w1.setCell ⟨w.heap.size + 1, 0, none⟩ (.int .i64 dl)).setCell ⟨w.heap.size + 1, 1, none⟩ (.slice A9 (n - j) c9)) := ((Kept.refl (fun i => i = w.heap.size + 1) w1).setCell (p := ⟨w.heap.size + 1, 0, none⟩) (.inl rfl) _).setCell (p := ⟨w.heap.size + 1, 1, none⟩) (.inl rfl) _
          have hst := hI.stored (cs' := true) A9 c9 h9
          refine ⟨Free.want_none rfl, (w1.setCell ⟨w.heap.size + 1, 0, none⟩ (.int .i64 dl)).setCell ⟨w.heap.size + 1, 1, none⟩ (.slice A9 (n - j) c9), ?_, trivial, hkk, hst⟩
          clear hp hst hres
          go_simp
        refine Free.Seq2.val ?_ (fun _ => Kept.refl _ _) (fun _ _ h => h) (fun a w1 L hI hp => ?_) ?_
        rotate_left
        · have e41 := hp.backV 9 1 rfl rfl rfl rfl rfl
          refine ⟨Free.want_none rfl, ?_⟩
          clear hp
          go_simp
          rfl
        refine Free.Seq2.done (by simp) (fun wz L hIz hLz => ?_)
        simp only [List.reverse_cons, List.reverse_nil, List.nil_append, List.cons_append, Free.All, Free.eqF, forall_eq]
        rintro x2 - x3 - x4 - -
        simp only [Free.putL, Act.put, List.setIfInBounds_toArray, List.set_cons_zero, List.set_cons_succ]
        have hfin := hIz.fin
        rw [hLz 10 (by decide)] at hfin
        obtain ⟨A9, c9, hres, A', c', he, hr, hA⟩ := (show ∃ A' c', wz.heap[w.heap.size + 1]? = some (.cells #[.int .i64 dl, .slice A' (n - j) c'] 38 (0, 0)) ∧ TW w ((n - j)) (wcs (ws.drop j)) (.slice A' (n - j) c') wz from hfin)
        injection he with he1 _ he3
        subst he1 he3
        obtain ⟨A3, c3, rfl⟩ := row_form hIz.out
        clear hfin
        generalize (if c = j then some (⟨b, off, none⟩ : Addr) else some ⟨b, off + j * 2, none⟩) = z1
        go_wp2
        refine bodyPost_ret (results_cell2 rfl _ _ (w.heap.size + 1) _ _ _ _ rfl hres Try.underlying38 rfl (by kernel_rfl)) rfl ?_
        exact ⟨A9, c9, A3, c3, rfl, hr, fun h0 b off e => by have := hA h0 b off e; omega, (OwnB.of hIz.out _ rfl).rd (by rw [List.length_map, List.length_take, HL.out]; omega) (by omega), fun b off e => by subst e; have := (World.ownsRow.lt hIz.out b rfl).1; omega, hIz.bel⟩
      · obtain rfl : n = j := by omega
        have HD := Lib.hid (show RdC w (if c = n then A else Option.map (fun x => x.add (n * 2)) A) 0 (c - n) 2 ((wcs ws).drop (n * 2)) from by have h := HR.out.drop (k := n) (Nat.le_refl _); rwa [Nat.sub_self] at h)
        clear hK
        go_wp2_with fail
        refine Free.wp_seq2 (I := fun L w' => KI w dl (.slice A n c) 0 u4 n (bs ((ws.take n).map Prod.fst)) (L 10) (0) (wcs (ws.drop n)) w') (Gr := fun x y => Kept (fun i => i = w.heap.size + 1) x y) (by kernel_rfl) (by kernel_rfl) (HK.out.any (0) (wcs (ws.drop n))).drew ?_
        refine Free.Seq2.val ?_ (fun _ => Kept.refl _ _) (fun _ _ h => h) (fun a w1 L hI hp => ?_) ?_
        rotate_left
        · have e1 := hp.slotV 1 (by kernel_rfl) rfl; simp at e1
          refine ⟨Free.want_none rfl, ?_⟩
          clear hp
          go_simp
          rfl
        refine Free.Seq2.val ?_ (fun _ => Kept.refl _ _) (fun _ _ h => h) (fun a w1 L hI hp => ?_) ?_
        rotate_left
        · have e32 := hp.backV 0 0 rfl rfl rfl rfl rfl
          have k0 := hI.c0
          refine ⟨Free.want_none rfl, ?_⟩
          clear hp
          go_simp
          rfl
        refine Free.Seq2.op (T := fun v _ => ∃ A0, v = .slice A0 0 0) (fun _ _ _ h _ => h) (fun a w1 L hI hp => ?_) ?_
        · skip
          refine ⟨Free.want_none rfl, _, _, ?_, ⟨some ⟨w1.heap.size, 0, none⟩, rfl⟩, (Kept.refl _ _).alloc (.cells #[] 61), hI.alloc (.cells #[] 61)⟩
          clear hp
          go_simp
        refine Free.Seq2.val ?_ (fun _ => Kept.refl _ _) (fun _ _ h => h) (fun a w1 L hI hp => ?_) ?_
        rotate_left
        · have e1 := hp.slotV 1 (by kernel_rfl) rfl; simp at e1
          refine ⟨Free.want_none rfl, ?_⟩
          clear hp
          go_simp
          rfl
        refine Free.Seq2.val ?_ (fun _ => Kept.refl _ _) (fun _ _ h => h) (fun a w1 L hI hp => ?_) ?_
        rotate_left
        · have e35 := hp.backV 3 0 rfl rfl rfl rfl rfl
          have k1 := hI.c1
          refine ⟨Free.want_none rfl, ?_⟩
          clear hp
          go_simp
          rfl
        refine Free.Seq2.val ?_ (fun _ => Kept.refl _ _) (fun _ _ h => h) (fun a w1 L hI hp => ?_) ?_
        rotate_left
        · have e5 := hp.slotV 5 (by kernel_rfl) rfl; simp at e5
          refine ⟨Free.want_none rfl, ?_⟩
          clear hp
          go_simp
          rfl
        refine Free.Seq2.val ?_ (fun _ => Kept.refl _ _) (fun _ _ h => h) (fun a w1 L hI hp => ?_) ?_
        rotate_left
        · have e36 := hp.backV 4 1 rfl rfl rfl rfl rfl; have e37 := hp.backV 5 0 rfl rfl rfl rfl rfl
          refine ⟨Free.want_none rfl, ?_⟩
          clear hp
          go_simp
          rfl
        refine Free.Seq2.op (T := TW w (0) (wcs (ws.drop n))) (fun v x y h hk => h.mono _ _ _ hk) (fun a w1 L hI hp => ?_) ?_
        · have e38 := hp.backV 6 0 rfl rfl rfl rfl rfl
          obtain ⟨A0, e34⟩ := hp.back 2 4 rfl rfl rfl rfl rfl
          obtain ⟨A9, c9, w9, hrun, h9, hg9, hA9⟩ := run_app0 w1 elemW _ A0 (c - n) ((HD.out.stays hI.stays).src (fun u hu => wcs_one ws u (List.mem_of_mem_drop hu))) (by omega)
          refine ⟨Free.want_none rfl, .slice A9 (0) c9, w9, ?_, ⟨A9, c9, rfl, by rw [wcs_drop]; exact h9, fun h0 b off e => Nat.le_trans hI.lt (hA9 h0 b off e)⟩, ⟨hg9.os, hg9.tape, hg9.output, hg9.size, fun i hi _ => hg9.block i hi (by simp)⟩, hI.grown hg9⟩
          exact Free.exec_app (.tmp 34) (.tmp 38) rfl (Free.eval_tmp e34) (Free.eval_tmp e38) hrun
        refine Free.Seq2.op (T := TWB w dl (0) (wcs (ws.drop n))) (fun v x y h hk => h.mono _ _ _ hk) (fun a w1 L hI hp => ?_) ?_
        · have e33 := hp.backV 1 6 rfl rfl rfl rfl rfl
          obtain ⟨A9, c9, e39, h9⟩ := hp.back 7 0 rfl rfl rfl rfl rfl
          refine ⟨Free.want_none rfl, .agg #[.int .i64 dl, .slice A9 (0) c9], w1, ?_, ⟨A9, c9, rfl, _, _, rfl, h9⟩, Kept.refl _ _, hI⟩
          clear hp
          go_simp
        refine Free.Seq2.val ?_ (fun _ => Kept.refl _ _) (fun _ _ h => h) (fun a w1 L hI hp => ?_) ?_
        rotate_left
        · have e4 := hp.slotV 4 (by kernel_rfl) rfl; simp at e4
          refine ⟨Free.want_none rfl, ?_⟩
          clear hp
          go_simp
          rfl
        refine Free.Seq2.skip rfl (fun _ => True) (fun _ _ _ _ => trivial) (fun a w1 L hI hp => ?_) ?_
        · have e2 := hp.slotV 2 (by kernel_rfl) rfl; simp at e2
          obtain ⟨A9, c9, e40, h9⟩ := hp.back 8 1 rfl rfl rfl rfl rfl
          obtain ⟨x0, y0, hres⟩ := hI.res
          have r0 : w1.cell? ⟨w.heap.size + 1, 0, none⟩ = some x0 := by rw [cell_of_cells hres]; rfl
          have r1 : w1.cell? ⟨w.heap.size + 1, 1, none⟩ = some y0 := by rw [cell_of_cells hres]; rfl
          have f0 : w1.frozen? ⟨w.heap.size + 1, 0, none⟩ = false := frozen_of_row w1 _ 0 _ _ hres
          have f1 : w1.frozen? ⟨w.heap.size + 1, 1, none⟩ = false := frozen_of_row w1 _ 1 _ _ hres
          have hkk : Kept (fun i => i = w.heap.size + 1) w1 ((w1.setCell ⟨w.heap.size + 1, 0, none⟩ (.int .i64 dl)).setCell ⟨w.heap.size + 1, 1, none⟩ (.slice A9 (0) c9)) := ((Kept.refl (fun i => i = w.heap.size + 1) w1).setCell (p := ⟨w.heap.size + 1, 0, none⟩) (.inl rfl) _).setCell (p := ⟨w.heap.size + 1, 1, none⟩) (.inl rfl) _
          have hst := hI.stored (cs' := true) A9 c9 h9
          refine ⟨Free.want_none rfl, (w1.setCell ⟨w.heap.size + 1, 0, none⟩ (.int .i64 dl)).setCell ⟨w.heap.size + 1, 1, none⟩ (.slice A9 (0) c9), ?_, trivial, hkk, hst⟩
          clear hp hst hres
          go_simp
        refine Free.Seq2.val ?_ (fun _ => Kept.refl _ _) (fun _ _ h => h) (fun a w1 L hI hp => ?_) ?_
        rotate_left
        · have e41 := hp.backV 9 1 rfl rfl rfl rfl rfl
          refine ⟨Free.want_none rfl, ?_⟩
          clear hp
          go_simp
          rfl
        refine Free.Seq2.done (by simp) (fun wz L hIz hLz => ?_)
        simp only [List.reverse_cons, List.reverse_nil, List.nil_append, List.cons_append, Free.All, Free.eqF, forall_eq]
        rintro x2 - x3 - x4 - -
        simp only [Free.putL, Act.put, List.setIfInBounds_toArray, List.set_cons_zero, List.set_cons_succ]
        have hfin := hIz.fin
        rw [hLz 10 (by decide)] at hfin
        obtain ⟨A9, c9, hres, A', c', he, hr, hA⟩ := (show ∃ A' c', wz.heap[w.heap.size + 1]? = some (.cells #[.int .i64 dl, .slice A' 0 c'] 38 (0, 0)) ∧ TW w (0) (wcs (ws.drop n)) (.slice A' 0 c') wz from hfin)
        injection he with he1 _ he3
        subst he1 he3
        obtain ⟨A3, c3, rfl⟩ := row_form hIz.out
        clear hfin
        generalize (if c = n then A else Option.map (fun x => x.add (n * 2)) A) = z1
        go_wp2
        refine bodyPost_ret (results_cell2 rfl _ _ (w.heap.size + 1) _ _ _ _ rfl hres Try.underlying38 rfl (by kernel_rfl)) rfl ?_
        rw [Nat.sub_self]
        exact ⟨A9, c9, A3, c3, rfl, hr, fun h0 b off e => by have := hA h0 b off e; omega, (OwnB.of hIz.out _ rfl).rd (by rw [List.length_map, List.length_take, HL.out]; omega) (by omega), fun b off e => by subst e; have := (World.ownsRow.lt hIz.out b rfl).1; omega, hIz.bel⟩
end Go.Proofs.Ytgiboekjjnmnnaa
