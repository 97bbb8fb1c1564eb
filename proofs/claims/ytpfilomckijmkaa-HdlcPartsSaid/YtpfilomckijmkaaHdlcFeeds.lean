/-
  HdlcFeeds: any bytes fed, in any parts.
-/
import Derived.Test.YtpfilomckijmkaaHdlcSame
namespace Go.Proofs.Ytpfilomckijmkaa
open Go.RowKit

theorem Hdl.kind_len (p : List UInt8) : (Hdl.kind p).2.length ≤ 128 := by
  unfold Hdl.kind
  cases Stf.unstuff false p with
  | none => simp
  | some q =>
    simp only
    repeat' split
    all_goals first | simp; done | (simp; omega)
theorem Hdl.step_len (d : Hdl.Dec) (b : UInt8) : ∀ l ∈ (Hdl.step d b).2, l.length ≤ 128 := by
  unfold Hdl.step
  repeat' split
  all_goals simp
  exact Hdl.kind_len _
theorem Hdl.feed_len : ∀ (p : List UInt8) (d : Hdl.Dec), ∀ l ∈ (Hdl.feed d p).2, l.length ≤ 128
  | [], d, l, h => by cases h
  | b :: p, d, l, h => by
    rcases List.mem_append.1 h with h | h
    · exact Hdl.step_len d b l h
    · exact Hdl.feed_len p _ l h

/-- lists of bytes in memory that is new from block N on -/
def RdLN (w : World) (N : Nat) (A : Option Addr) (n c : Nat) (ls : List (List UInt8)) : Prop :=
  ls.length = n ∧ n ≤ c ∧ n ≤ 281474976710656 ∧ (0 < n → ∃ b off, A = some ⟨b, off, none⟩ ∧ N ≤ b ∧ b < w.heap.size ∧ ∀ j l, ls[j]? = some l → ∃ A' n' c', w.cell? ⟨b, off + j, none⟩ = some (.slice A' n' c') ∧ Rd w A' n' c' l ∧ New N A')
theorem RdLN.rdl {w : World} {N : Nat} {A : Option Addr} {n c : Nat} {ls : List (List UInt8)} (h : RdLN w N A n c ls) : RdL w A n c ls :=
  ⟨h.1, h.2.1, h.2.2.1, fun hn => by
    obtain ⟨b, off, e, _, hb, hc⟩ := h.2.2.2 hn
    exact ⟨b, off, e, hb, fun j l hj => by
      obtain ⟨A', n', c', h1, h2, _⟩ := hc j l hj
      exact ⟨A', n', c', h1, h2⟩⟩⟩
theorem RdLN.keep {w w' : World} {N : Nat} {A : Option Addr} {n c : Nat} {ls : List (List UInt8)} (h : RdLN w N A n c ls) (hs : w.heap.size ≤ w'.heap.size) (hk : ∀ k, N ≤ k → k < w.heap.size → w'.heap[k]? = w.heap[k]?) : RdLN w' N A n c ls :=
  ⟨h.1, h.2.1, h.2.2.1, fun hn => by
    obtain ⟨b, off, e, hN, hb, hc⟩ := h.2.2.2 hn
    exact ⟨b, off, e, hN, Nat.lt_of_lt_of_le hb hs, fun j l hj => by
      obtain ⟨A', n', c', h1, h2, h3⟩ := hc j l hj
      exact ⟨A', n', c', (World.cell?_of_block (w := w) (a := ⟨b, off + j, none⟩) (hk b hN hb)).trans h1, h2.keep hs (fun b' off' e' hb' => hk b' (h3 b' (by subst e'; rfl)) hb'), h3⟩⟩⟩
theorem RdLN.base {w : World} {N M : Nat} {A : Option Addr} {n c : Nat} {ls : List (List UInt8)} (h : RdLN w N A n c ls) (hM : M ≤ N) : RdLN w M A n c ls :=
  ⟨h.1, h.2.1, h.2.2.1, fun hn => by
    obtain ⟨b, off, e, hN, hb, hc⟩ := h.2.2.2 hn
    exact ⟨b, off, e, Nat.le_trans hM hN, hb, fun j l hj => by
      obtain ⟨A', n', c', h1, h2, h3⟩ := hc j l hj
      exact ⟨A', n', c', h1, h2, h3.base hM⟩⟩⟩
theorem Told.rdl {w : World} {B C : Nat} {I : Value} {A : Option Addr} {n c : Nat} {xs : List Value} {ls : List (List UInt8)} (hs : Sl w B 25 (.slice A n c) n xs) (h : Told w C I xs ls) (hN : ∀ k, Value.ownBlock (.slice A n c) = some k → C ≤ k) (hn : ls.length = n) (hb : n ≤ 281474976710656) (hl : ∀ l ∈ ls, l.length ≤ 128) : RdLN w C A n c ls := by
  obtain ⟨A', c', hv, hc⟩ := hs.form
  injection hv with h1 h2 h3
  subst h1 h3
  refine ⟨hn, hc, hb, fun h0 => ?_⟩
  obtain ⟨g, off, rfl, _, hg, hcell⟩ := hs.cell h0
  refine ⟨g, off, rfl, hN g rfl, hg, fun j l hj => ?_⟩
  obtain ⟨A', c', hx, hsl, _⟩ := h.2 j l hj
  refine ⟨A', l.length, c', hcell j _ hx, hsl.rd (by have := hl l (List.mem_of_getElem? hj); omega), fun k e => ?_⟩
  refine (hsl.lt k ?_).1
  cases A' with
  | none => simp [Value.ownBlock] at e
  | some a => simpa [Value.ownBlock] using e
theorem RdRow.rdl {w : World} {V : Value} {N : Nat} {A : Option Addr} {n c : Nat} {xs : List Value} {ls : List (List UInt8)} (ho : w.ownsRow N 25 1 (.slice A n c) n xs) (h : RdRow w V N xs ls) (hn : ls.length = n) (hb : n ≤ 281474976710656) : RdLN w N A n c ls := by
  have hc := RdC.of_row ho hb
  refine ⟨hn, hc.cap, hb, fun h0 => ?_⟩
  obtain ⟨b, off, rfl, hbl, hcell⟩ := hc.at_ h0
  refine ⟨b, off, rfl, (World.ownsRow.lt ho b rfl).1, hbl, fun j l hj => ?_⟩
  obtain ⟨A', c', hx, hr, _, hw⟩ := h.2 j l hj
  exact ⟨A', _, c', hcell j _ hx, hr, hw⟩
/-- lists of bytes that lie in none of the blocks that were written -/
theorem Dc.keep {w w' : World} {B C g : Nat} {d : Hdl.Dec} {I : Value} (h : Dc w B C g d I (.slice none 0 0) [] []) (hs : w.heap.size ≤ w'.heap.size) (hg : w'.heap[g]? = w.heap[g]?) (hI : ∀ k, I.ownBlock = some k → w'.heap[k]? = w.heap[k]?) : Dc w' B C g d I (.slice none 0 0) [] [] :=
  ⟨h.low, Nat.le_trans h.cow hs, hg.trans h.obj, h.hi.kept hI, Sl.nil _ _ _, Told.nil _ _ _⟩

/-- what is so at a round's head: g the program's decoder, r the document's -/
structure FDS (w wr : World) (g r k : Nat) (d : Hdl.Dec) (I : Value) (A : Option Addr) (c : Nat) : Prop where
  ok : Hdl.Ok d
  le : d.met.Le (3000 * k)
  dc : Dc wr w.heap.size 0 g d I (.slice none 0 0) [] []
  rc : wr.heap[r]? = some (.cells (rcs d (.slice A d.inn.length c)) RT (0, 0))
  rd : Rd wr A d.inn.length c d.inn
  off : Off A d.inn.length I
  nw : d.inn.length = 0 ∨ New (r + 1) A
  gr : g < r
  wg : w.heap.size ≤ g
  bel : Below w.heap.size w wr

/-- behind both feeds: blocks from s to N - 1 may be written -/
structure MF (w wv : World) (g r s N : Nat) (d : Hdl.Dec) (I : Value) (A : Option Addr) (c : Nat) (A3 : Option Addr) (c3 : Nat) (Ao : Option Addr) (co : Nat) (ls : List (List UInt8)) : Prop where
  dc : Dc wv w.heap.size 0 g d I (.slice none 0 0) [] []
  rc : wv.heap[r]? = some (.cells (rcs d (.slice A d.inn.length c)) RT (0, 0))
  rd : Rd wv A d.inn.length c d.inn
  off : Off A d.inn.length I
  nw : d.inn.length = 0 ∨ New (r + 1) A
  got : RdLN wv N A3 ls.length c3 ls
  want : RdLN wv N Ao ls.length co ls
  bel : Below w.heap.size w wv
  gs : g < s
  rs : r < s
  ws : w.heap.size ≤ s
  io : ∀ q, I.ownBlock = some q → q < s ∨ N ≤ q
  ao : d.inn.length = 0 ∨ ∀ q, Value.ownBlock (.slice A 0 0) = some q → q < s ∨ N ≤ q
theorem MF.keep {w wv w' : World} {g r s N : Nat} {d : Hdl.Dec} {I : Value} {A : Option Addr} {c : Nat} {A3 : Option Addr} {c3 : Nat} {Ao : Option Addr} {co : Nat} {ls : List (List UInt8)} (h : MF w wv g r s N d I A c A3 c3 Ao co ls) (hk : Kept (fun q => s ≤ q ∧ q < N) wv w') : MF w w' g r s N d I A c A3 c3 Ao co ls :=
  { h with
    dc := h.dc.keep hk.size (hk.block _ h.dc.lt (by have := h.gs; omega)) (fun q e => hk.block q (h.dc.hi.lt q e).2 (by have := h.io q e; omega))
    rc := (hk.block _ (Array.getElem?_eq_some_iff.1 h.rc).1 (by have := h.rs; omega)).trans h.rc
    rd := by
      rcases h.ao with h0 | h0
      · have hn0 : d.inn = [] := List.eq_nil_of_length_eq_zero h0
        rw [hn0]
        exact Rd.nil _ _ _
      · exact h.rd.keep hk.size fun b off e hb => hk.block b hb (by have := h0 b (by subst e; rfl); omega)
    got := h.got.keep hk.size fun q h1 h2 => hk.block q h2 (by omega)
    want := h.want.keep hk.size fun q h1 h2 => hk.block q h2 (by omega)
    bel := h.bel.trans (hk.below h.bel.size (fun i hi h1 => by have := h.ws; omega)) }

set_option maxHeartbeats 4000000 in
/-- HdlcFeeds -/
theorem feeds_law (A0 : Option Addr) (n c0 : Nat) (ls0 : List (List UInt8)) (w : World) (hR : RdL w A0 n c0 ls0) (hn : n ≤ 140737488355000) :
    Calls Try.prog 3 #[.slice A0 n c0] w fun e w' => e = .returned (.bool true) ∧ Below w.heap.size w w' := by
  have HR := Lib.hid hR
  clear hR
  go_enter Try.func3, Try.ntmps3
  go_wp2_with fail
  refine (dnew_any w).mono ?_
  rintro e w1 ⟨rfl, hd, hb⟩
  have hlt := hd.lt
  have hb1 : Below w1.heap.size w1 (w1.alloc (.cells (rcs Hdl.d0 (.slice none 0 0)) RT)) := (Below.refl _ _).alloc (Nat.le_refl _) _
  have hf : FDS w (w1.alloc (.cells (rcs Hdl.d0 (.slice none 0 0)) RT)) w.heap.size w1.heap.size 0 Hdl.d0 (.slice none 0 0) none 0 :=
    ⟨Hdl.ok0, Hdl.le0, hd.below hb1, heap_alloc_new _ _, Rd.nil _ _ _, .inl rfl, .inl rfl, hlt, Nat.le_refl _, hb.trans (hb1.mono hb.size)⟩
  have HF := Lib.hid hf
  obtain ⟨r, hr⟩ : ∃ r, r = w1.heap.size := ⟨_, rfl⟩
  rw [← hr] at HF hlt
  obtain ⟨w2, hw2⟩ : ∃ w2, w2 = w1.alloc (.cells (rcs Hdl.d0 (.slice none 0 0)) RT) := ⟨_, rfl⟩
  rw [← hw2] at HF
  simp only [rcs, Hdl.d0] at hw2
  have HW2 := Lib.hid hw2
  have HRR := Lib.hid hr
  clear hd hb hb1 hf hw2 hr
  go_wp2_with fail
  rw [show w1.alloc (.cells #[.bool true, .slice none 0 0, .int .i64 0, .int .i64 0, .int .i64 0, .int .i64 0, .int .i64 0] RT) = w2 from HW2.out.symm]
  rw [← HRR.out]
  have hgr0 := hlt
  go_loopw [5] (fun i wr => ∃ k : Nat, k ≤ n ∧ k ≤ 30 ∧ i = .int .i64 k ∧ ∃ d I A c, Hid (FDS w wr w.heap.size r k d I A c)) (fun i _ => n - (intOf i).toNat)
  case atStart => exact ⟨0, Nat.zero_le _, Nat.zero_le _, rfl, _, _, _, _, HF⟩
  case round =>
    obtain ⟨k, hk, hk30, rfl, d, I, A, c, hI⟩ := hrel
    by_cases hlt2 : k < n ∧ k < 30
    · obtain ⟨hlt, hlt30⟩ := hlt2
      obtain ⟨b, off, l, A1, n1, c1, rfl, hb1, hl1, hc1, hr1⟩ := HR.out.at' hlt
      have hcw : wr.cell? ⟨b, off + k, none⟩ = some (.slice A1 n1 c1) := (hI.out.bel.cell (p := ⟨b, off + k, none⟩) hb1).trans hc1
      have hr2 := hr1.below hI.out.bel
      obtain ⟨m, hm⟩ : ∃ m, m = min n1 3000 := ⟨_, rfl⟩
      have hm3 : m ≤ 3000 := by omega
      have hr3 : Rd w A1 m c1 (l.take m) := hr1.take (by omega)
      have hcut : ∀ W, Rd W A1 n1 c1 l → Calls Try.prog 11 #[.slice A1 n1 c1] W fun e w' => e = .returned (.slice A1 m c1) ∧ W = w' := fun W h => by rw [hm]; exact cut_any W A1 n1 c1 l h
      obtain ⟨p, hp⟩ : ∃ p, p = l.take m := ⟨_, rfl⟩
      rw [← hp] at hr3
      have HCUT := Lib.hid hcut
      have HR2 := Lib.hid hr2
      have HR3 := Lib.hid hr3
      clear hcut hr1 hr2 hr3 hc1 hl1 hm hp
      go_wp2_with fail
      refine (HCUT.out wr HR2.out).mono ?_
      rintro e w3 ⟨rfl, rfl⟩
      clear hcw HCUT HR2
      have hsz := hI.out.bel.size
      go_wp2_with ((with_reducible show wpList _ _ _ (⟨some 33, _, _, _, _, _⟩ :: _) _ _); refine wpList_app _ rfl elemB (.tmp 31) (.tmp 32) rfl rfl (own_empty _ wr.heap.size _ _ 1 (by simp) (by omega)) rfl (((HR3.out.below hI.out.bel).stays (Stays.alloc wr _)).src) m (by omega) (by omega) (by simp) ?_; intro A2 c2 w4 hown4 hg4 hat4)
      have hb4 := below_app' ((Below.refl wr.heap.size wr).alloc (Nat.le_refl _) _) (own_empty _ wr.heap.size _ _ 1 (by simp) (by omega)) hg4 (Nat.le_refl _) (by simp)
      have ho4 := OwnB.of hown4 p (by simp)
      clear hown4 hg4 hat4
      have hpl : p.length = m := HR3.out.len
      have hf := hI.out
      have hgl := hf.dc.lt
      have hrl : r < wr.heap.size := (Array.getElem?_eq_some_iff.1 hf.rc).1
      have hdis : ∀ q, DcS w.heap.size I (.slice none 0 0) q → w.heap.size ≤ q ∧ q < wr.heap.size := by
        rintro q (h | h | h)
        · omega
        · exact hf.dc.hi.lt q h
        · simp [Value.ownBlock] at h
      obtain ⟨d', hd'⟩ : ∃ d', d' = (Hdl.feed d p).1 := ⟨_, rfl⟩
      obtain ⟨ls, hls⟩ : ∃ ls, ls = (Hdl.feed d p).2 := ⟨_, rfl⟩
      have hok' : Hdl.Ok d' := by rw [hd']; exact Hdl.ok_feed p hf.ok
      have hle' : d'.met.Le (3000 * (k + 1)) := by rw [hd']; exact (Hdl.le_feed p hf.le).mono (by omega)
      have hlen : ∀ l' ∈ ls, l'.length ≤ 128 := by rw [hls]; exact Hdl.feed_len p d
      have hlsl : ls.length ≤ 3000 := by rw [hls]; have := Hdl.told_feed p d; omega
      have hfd := dfeed_any w4 (xs := []) (told := []) A2 m c2 p ((hf.dc.below hb4).recut (Nat.le_refl w4.heap.size)) (ho4.rd hpl (by omega)) (fun _ b off e h => by
          have h1 := hdis b h
          subst e
          have h2 := (World.ownsRow.lt ho4 b rfl).1
          omega) hf.ok (3000 * k) hf.le (by omega) (by simp; omega)
      rw [← hd', ← hls, List.nil_append] at hfd
      refine hfd.mono ?_
      clear hfd
      rintro e w5 ⟨I', A3, c3, xs5, rfl, hd5, hs5, ht5, hk5, hi5, ha5⟩
      have hs4 := hb4.size
      have hs54 := hk5.size
      have hrd5 : Rd w5 A d.inn.length c d.inn := by
        rcases Nat.eq_zero_or_pos d.inn.length with h0 | h0
        · have hn0 : d.inn = [] := List.eq_nil_of_length_eq_zero h0
          rw [hn0]
          exact Rd.nil _ _ _
        · refine (hf.rd.below hb4).keep hs54 fun b off e hb => hk5.block b hb ?_
          rintro (h | h | h)
          · rcases hf.nw with h1 | h1
            · omega
            · have := h1 b (by subst e; rfl)
              have := hf.gr
              omega
          · rcases hf.off with h1 | h1
            · omega
            · exact h1 b (by subst e; rfl) h
          · simp [Value.ownBlock] at h
      have hr5 : Rd w5 A1 m c1 p := by
        rcases Nat.eq_zero_or_pos m with h0 | h0
        · have hp0 : p = [] := List.eq_nil_of_length_eq_zero (by omega)
          rw [h0, hp0]
          exact Rd.nil _ _ _
        · refine ((HR3.out.below hf.bel).below hb4).keep hs54 fun b' off' e hb' => hk5.block b' hb' fun h => ?_
          have h1 := hdis b' h
          obtain ⟨b2, off2, e2, hb2, _⟩ := HR3.out.at_ h0
          rw [e] at e2
          injection e2 with e2
          injection e2 with e2
          omega
      have hrn : ¬ DcS w.heap.size I (.slice none 0 0) r := by
        rintro (h | h | h)
        · have := hf.gr
          omega
        · obtain ⟨cur, hcur⟩ := hf.dc.hi.type r h
          exact ty_ne hcur hf.rc (by decide) rfl
        · simp [Value.ownBlock] at h
      have hrc4 := (hb4.block r hrl).trans hf.rc
      have hrl4 : r < w4.heap.size := (Array.getElem?_eq_some_iff.1 hrc4).1
      have z5 : w5.heap[r]? = some (.cells #[.bool d.hunts, .slice A d.inn.length c, .int .i64 d.met.good, .int .i64 d.met.bad, .int .i64 d.met.short, .int .i64 d.met.long, .int .i64 d.met.broken] RT (0, 0)) := (hk5.block r hrl4 hrn).trans hrc4
      obtain ⟨⟨s0, s1, s2, s3, s4, s5, s6⟩, _⟩ := cells7 z5
      have hrf := rfeed_any w5 d A c hrd5 A1 m c1 p hr5 hf.ok (3000 * k) hf.le (by omega) (by omega)
      rw [← hd', ← hls] at hrf
      have HRF := Lib.hid hrf
      have HOK' := Lib.hid hok'
      have HLE' := Lib.hid hle'
      have HLEN := Lib.hid hlen
      have HD5 := Lib.hid hd5
      have HS5 := Lib.hid hs5
      have HT5 := Lib.hid ht5
      have HK5 := Lib.hid hk5
      have HI5 := Lib.hid hi5
      have HA5 := Lib.hid ha5
      have HZ5 := Lib.hid z5
      have HF := Lib.hid hf
      have HB4 := Lib.hid hb4
      have HO4 := Lib.hid ho4
      have HDIS := Lib.hid hdis
      have HPL := Lib.hid hpl
      have hrl5 : r < w5.heap.size := (Array.getElem?_eq_some_iff.1 z5).1
      clear hrf hok' hle' hlen hd5 hs5 ht5 hk5 hi5 ha5 z5 hf hb4 ho4 hdis hd' hls hrd5 hr5 hrc4 hrn hpl hI
      go_wp2_with fail
      refine HRF.out.mono ?_
      rintro e w6 ⟨A4, c4, Ao, co, xs6, rfl, hr6, ho6, hrow6, hwh6, hoff6, hb6⟩
      have hs5 := HK5.out.size
      have hs4 := HB4.out.size
      have hs6 := hb6.size
      have z6 : w6.heap[r]? = some (.cells #[.bool d.hunts, .slice A d.inn.length c, .int .i64 d.met.good, .int .i64 d.met.bad, .int .i64 d.met.short, .int .i64 d.met.long, .int .i64 d.met.broken] RT (0, 0)) := (hb6.block r hrl5).trans HZ5.out
      have hst0 := heap_set7 z6 (.bool d'.hunts) (.slice A4 d'.inn.length c4) (.int .i64 d'.met.good) (.int .i64 d'.met.bad) (.int .i64 d'.met.short) (.int .i64 d'.met.long) (.int .i64 d'.met.broken)
      obtain ⟨wu, hwu⟩ : ∃ wu, wu = set7 w6 r (.bool d'.hunts) (.slice A4 d'.inn.length c4) (.int .i64 d'.met.good) (.int .i64 d'.met.bad) (.int .i64 d'.met.short) (.int .i64 d'.met.long) (.int .i64 d'.met.broken) := ⟨_, rfl⟩
      rw [← hwu] at hst0
      have hot0 : ∀ q, q ≠ r → wu.heap[q]? = w6.heap[q]? := fun q hq => by rw [hwu]; simp only [set7, heap_setCell_other _ (⟨r, _, none⟩ : Addr) _ _ hq]
      have hszu : wu.heap.size = w6.heap.size := by rw [hwu]; simp [set7]
      have hgr : GrN r RT w6 wu := GrN.row (us := (rcs d (.slice A d.inn.length c)).toList) (us' := (rcs d' (.slice A4 d'.inn.length c4)).toList) (Nat.le_refl _) z6 hst0 rfl (nob_rcs d A d.inn.length c) (nob_rcs d' A4 d'.inn.length c4) (by rw [hszu]; exact Nat.le_refl _) hot0
      obtain ⟨wv, hwv⟩ : ∃ wv, wv = wu.alloc (.cells (rcs d' (.slice A4 d'.inn.length c4)) RT) := ⟨_, rfl⟩
      have hba : Below wu.heap.size wu wv := by rw [hwv]; exact (Below.refl _ _).alloc (Nat.le_refl _) _
      have hszv : wv.heap.size = w6.heap.size + 1 := by rw [hwv]; simp [hszu]
      have hst := (hba.block r (by omega)).trans hst0
      have hot : ∀ q, q ≠ r → q < w6.heap.size → wv.heap[q]? = w6.heap[q]? := fun q hq hq2 => (hba.block q (by omega)).trans (hot0 q hq)
      have h5v : ∀ q, q ≠ r → q < w5.heap.size → wv.heap[q]? = w5.heap[q]? := fun q hq hq2 => (hot q hq (by omega)).trans (hb6.block q hq2)
      have hir : I'.ownBlock ≠ some r := fun e => by
        rcases HI5.out r e with h | h
        · obtain ⟨cur, hcur⟩ := HF.out.dc.hi.type r h
          exact ty_ne hcur HF.out.rc (by decide) rfl
        · omega
      have hMF : MF w wv w.heap.size r wr.heap.size w4.heap.size d' I' A4 c4 A3 c3 Ao co ls := by
        have hi' : ∀ q, I'.ownBlock = some q → q < wr.heap.size ∨ w4.heap.size ≤ q := fun q e => by
          rcases HI5.out q e with h | h
          · exact .inl (HF.out.dc.hi.lt q h).2
          · exact .inr h
        refine ⟨(HD5.out.recut (Nat.zero_le _)).keep (by omega) (h5v _ (by have := HF.out.gr; omega) HD5.out.lt) (fun q e => h5v q (by rintro rfl; exact hir e) (HD5.out.hi.lt q e).2), hst, (hr6.grN hgr).below hba, ?_, ?_, ?_, ?_, ?_, hgl, hrl, by omega, hi', ?_⟩
        · rcases hwh6 with (h | ⟨h1, h2⟩) | h
          · exact .inl h
          · rw [h1, h2]
            rcases HF.out.off with h | h
            · exact .inl h
            · rcases Nat.eq_zero_or_pos d.inn.length with h0 | h0
              · exact .inl h0
              · obtain ⟨b', off', rfl, hb', _⟩ := HF.out.rd.at_ h0
                refine .inr fun q e e' => ?_
                rcases HI5.out q e' with h3 | h3
                · exact h q e h3
                · simp [Value.ownBlock] at e
                  omega
          · exact .inr (Apart.new h fun q e => (HD5.out.hi.lt q e).2)
        · rcases hwh6 with (h | ⟨h1, h2⟩) | h
          · exact .inl h
          · rw [h1, h2]
            exact HF.out.nw
          · exact .inr (h.base (by omega))
        · refine (Told.rdl HS5.out HT5.out (fun q e => ?_) rfl (by omega) HLEN.out).keep (by omega) fun q h1 h2 => h5v q (by omega) h2
          rcases HA5.out q e with h | h
          · simp [Value.ownBlock] at h
          · exact h
        · exact ((RdRow.rdl ho6 hrow6 rfl (by omega)).base (by omega)).keep (by omega) fun q h1 h2 => hot q (by omega) h2
        · have h1 : Below w.heap.size w w4 := HF.out.bel.trans (HB4.out.mono (by omega))
          have h2 : Below w.heap.size w w5 := h1.trans (HK5.out.below (by omega) (fun i hi h => by have := HDIS.out i h; omega))
          have h3 := h2.trans (hb6.mono (by omega))
          have h4 : Below w.heap.size w wu := by rw [hwu]; exact below_set7 h3 (by have := HF.out.gr; omega) _ _ _ _ _ _ _
          exact h4.trans (hba.mono h4.size)
        · rcases hwh6 with (h | ⟨h1, h2⟩) | h
          · exact .inl h
          · rw [h1, h2]
            rcases Nat.eq_zero_or_pos d.inn.length with h0 | h0
            · exact .inl h0
            · obtain ⟨b', off', rfl, hb', _⟩ := HF.out.rd.at_ h0
              exact .inr fun q e => by simp [Value.ownBlock] at e; omega
          · exact .inr fun q e => .inr (by have := h q e; omega)
      have hown : OwnB wv wr.heap.size 5 (.slice A2 m c2) p := row_keep HO4.out fun q e => by
        have h1 := World.ownsRow.lt HO4.out q e
        have h2 := HK5.out.block q h1.2 (fun h => by have := HDIS.out q h; omega)
        exact (h5v q (by omega) (by omega)).trans h2
      have HOL : Hid (∀ q, Value.ownBlock (.slice A2 m c2) = some q → wr.heap.size ≤ q ∧ q < w4.heap.size) := fun q e => World.ownsRow.lt HO4.out q e
      obtain ⟨⟨r0, r1, r2, r3, r4, r5, r6⟩, fr⟩ := cells7 z6
      have f0 := fr 0
      have f1 := fr 1
      have f2 := fr 2
      have f3 := fr 3
      have f4 := fr 4
      have f5 := fr 5
      have f6 := fr 6
      rw [hwu] at hwv
      unfold set7 rcs at hwv
      have HWV := Lib.hid hwv
      have HMF := Lib.hid hMF
      have HOW := Lib.hid hown
      have hr6l : r < w6.heap.size := by omega
      clear hwv hwu hMF hown hir h5v hgr hszv hszu hot hot0 hst hst0 z6 hba hb6 hoff6 hwh6 hrow6 ho6 hr6 fr HRF HD5 HS5 HT5 HK5 HI5 HA5 HZ5 HF HB4 HO4 HDIS HLEN s0 s1 s2 s3 s4 s5 s6
      unfold rcs
      go_wp2_with fail
      rw [← HWV.out]
      clear HWV r0 r1 r2 r3 r4 r5 r6 f0 f1 f2 f3 f4 f5 f6 hr6l
      obtain ⟨wo, rfl⟩ : ∃ wo : World, wo = wr := ⟨_, rfl⟩
      go_loopw [11] (fun i wr => ∃ j : Nat, j ≤ m ∧ i = .int .i64 j ∧ (∃ x : List UInt8, x.length = m ∧ OwnB wr wo.heap.size 5 (.slice A2 m c2) x) ∧ Hid (Kept (fun q => wo.heap.size ≤ q ∧ q < w4.heap.size) wv wr)) (fun i _ => m - (intOf i).toNat)
      case atStart => exact ⟨0, Nat.zero_le _, rfl, ⟨p, HPL.out, HOW.out⟩, Kept.refl _ _⟩
      case round =>
        obtain ⟨j, hj, rfl, ⟨x, hx, hox⟩, hkw⟩ := hrel
        by_cases hjm : j < m
        · obtain ⟨g, rfl, hg, hgl⟩ := hox.at_ hx (by omega)
          have hgw := HOL.out g rfl
          have hcell := hox.cell hx j hjm
          have hfree := hox.free hx j
          have hst := hox.store hx j (255 - x.getD j 0)
          obtain ⟨y, hy⟩ : ∃ y, y = x.getD j 0 := ⟨_, rfl⟩
          rw [← hy] at hcell hst
          have H1 := Lib.hid hst
          have H2 := Lib.hid (hkw.out.setCell (p := ⟨g, j, none⟩) (.inl hgw) (bv (255 - y)))
          have HX := Lib.hid hx
          clear hst hx hy hkw hox
          go_wp2_with fail
          go_roundw
          case rel =>
            rw [inv_byte]
            exact ⟨j + 1, by omega, by go_num, ⟨_, by rw [List.length_set]; exact HX.out, H1.out⟩, H2.out⟩
          case measure => simp [intOf]; omega
        · obtain rfl : j = m := by omega
          have HM2 := Lib.hid (HMF.out.keep hkw.out)
          clear HMF hkw hox hx
          have hrw : r < wr.heap.size := (Array.getElem?_eq_some_iff.1 HM2.out.rc).1
          have HRC := Lib.hid HM2.out.rc
          obtain ⟨Z, hZ⟩ : ∃ Z : Int, Z = (if d'.hunts = true then -1 else (d'.inn.length : Int)) := ⟨_, rfl⟩
          have HZ := Lib.hid hZ
          clear hZ
          go_wp2_with fail
          refine Free.wp_seq (I := fun w' => Below wr.heap.size wr w') (Gr := fun w1 w2 => Below w1.heap.size w1 w2) (by kernel_rfl) (by kernel_rfl) (Below.refl _ _).drew ?_
          refine Free.Seq.val ?_ (fun _ => Below.refl _ _) (fun a w1 hI hp => ?_) ?_
          rotate_left
          · have e8 := hp.slotV 8 (by kernel_rfl) rfl; simp at e8
            refine ⟨Free.want_none rfl, ?_⟩
            clear hp
            go_simp
            rfl
          refine Free.Seq.val ?_ (fun _ => Below.refl _ _) (fun a w1 hI hp => ?_) ?_
          rotate_left
          · have e10 := hp.slotV 10 (by kernel_rfl) rfl; simp at e10
            refine ⟨Free.want_none rfl, ?_⟩
            clear hp
            go_simp
            rfl
          refine Free.Seq.call (T := Free.eqF (.bool true)) (fun _ _ _ h _ => h) (fun a w1 hI hp => ?_) ?_
          · have e58 := hp.backV 0 1 rfl rfl rfl rfl rfl; have e59 := hp.backV 1 0 rfl rfl rfl rfl rfl
            refine ⟨Free.want_none rfl, 14, #[.slice A3 ls.length c3, .slice Ao ls.length co], ?_, ?_⟩
            · clear hp
              go_simp
            · refine (rsame_eq _ A3 Ao ls.length c3 co ls (HM2.out.got.rdl.below hI) (HM2.out.want.rdl.below hI)).mono ?_
              rintro e w' ⟨rfl, hb⟩
              exact ⟨_, rfl, rfl, hb, hI.trans (hb.mono hI.size)⟩
          refine Free.Seq.val ?_ (fun _ => Below.refl _ _) (fun a w1 hI hp => ?_) ?_
          rotate_left
          · have e60 := hp.backV 2 0 rfl rfl rfl rfl rfl
            refine ⟨Free.want_none rfl, ?_⟩
            clear hp
            go_simp
            rfl
          refine Free.Seq.val ?_ (fun _ => Below.refl _ _) (fun a w1 hI hp => ?_) ?_
          rotate_left
          · have e61 := hp.backV 3 0 rfl rfl rfl rfl rfl
            refine ⟨Free.want_none rfl, ?_⟩
            clear hp
            go_simp
            rfl
          refine Free.Seq.val ?_ (fun _ => Below.refl _ _) (fun a w1 hI hp => ?_) ?_
          rotate_left
          · have e62 := hp.backV 4 0 rfl rfl rfl rfl rfl; have e3 := hp.slotV 3 (by kernel_rfl) rfl; simp at e3
            refine ⟨hp.want rfl rfl rfl e62, ?_⟩
            clear hp
            go_simp
            rfl
          refine Free.Seq.call (T := Free.eqF (.agg #[.int .i64 d'.met.good, .int .i64 d'.met.bad, .int .i64 d'.met.short, .int .i64 d'.met.long, .int .i64 d'.met.broken])) (fun _ _ _ h _ => h) (fun a w1 hI hp => ?_) ?_
          · have e62 := hp.backV 4 1 rfl rfl rfl rfl rfl; have e63 := hp.backV 5 0 rfl rfl rfl rfl rfl
            refine ⟨hp.want rfl rfl rfl e62, 15, #[.pointer (some ⟨w.heap.size, 0, none⟩)], ?_, ?_⟩
            · clear hp
              go_simp
            · refine (dstats_any _ (HM2.out.dc.below hI)).mono ?_
              rintro e w' ⟨rfl, hb⟩
              exact ⟨_, rfl, rfl, hb, hI.trans (hb.mono hI.size)⟩
          refine Free.Seq.val ?_ (fun _ => Below.refl _ _) (fun a w1 hI hp => ?_) ?_
          rotate_left
          · have e62 := hp.backV 4 2 rfl rfl rfl rfl rfl; have e4 := hp.slotV 4 (by kernel_rfl) rfl; simp at e4
            refine ⟨hp.want rfl rfl rfl e62, ?_⟩
            clear hp
            go_simp
            rfl
          refine Free.Seq.val ?_ (fun _ => Below.refl _ _) (fun a w1 hI hp => ?_) ?_
          rotate_left
          · have e62 := hp.backV 4 3 rfl rfl rfl rfl rfl; have e65 := hp.backV 7 0 rfl rfl rfl rfl rfl
            have k2 : w1.cell? ⟨r, 2, none⟩ = _ := (hI.cell (p := ⟨r, 2, none⟩) hrw).trans (cell_of_cells HRC.out 2)
            have k3 : w1.cell? ⟨r, 3, none⟩ = _ := (hI.cell (p := ⟨r, 3, none⟩) hrw).trans (cell_of_cells HRC.out 3)
            have k4 : w1.cell? ⟨r, 4, none⟩ = _ := (hI.cell (p := ⟨r, 4, none⟩) hrw).trans (cell_of_cells HRC.out 4)
            have k5 : w1.cell? ⟨r, 5, none⟩ = _ := (hI.cell (p := ⟨r, 5, none⟩) hrw).trans (cell_of_cells HRC.out 5)
            have k6 : w1.cell? ⟨r, 6, none⟩ = _ := (hI.cell (p := ⟨r, 6, none⟩) hrw).trans (cell_of_cells HRC.out 6)
            simp [rcs] at k2 k3 k4 k5 k6
            refine ⟨hp.want rfl rfl rfl e62, ?_⟩
            clear hp
            go_simp
            rfl
          refine Free.Seq.val ?_ (fun _ => Below.refl _ _) (fun a w1 hI hp => ?_) ?_
          rotate_left
          · have e62 := hp.backV 4 4 rfl rfl rfl rfl rfl; have e64 := hp.backV 6 2 rfl rfl rfl rfl rfl; have e66 := hp.backV 8 0 rfl rfl rfl rfl rfl
            refine ⟨hp.want rfl rfl rfl e62, ?_⟩
            clear hp
            go_simp
            rfl
          refine Free.Seq.val ?_ (fun _ => Below.refl _ _) (fun a w1 hI hp => ?_) ?_
          rotate_left
          · have e62 := hp.backV 4 5 rfl rfl rfl rfl rfl; have e67 := hp.backV 9 0 rfl rfl rfl rfl rfl
            refine ⟨Free.want_none rfl, ?_⟩
            clear hp
            go_simp
            rfl
          refine Free.Seq.val ?_ (fun _ => Below.refl _ _) (fun a w1 hI hp => ?_) ?_
          rotate_left
          · have e68 := hp.backV 10 0 rfl rfl rfl rfl rfl
            refine ⟨Free.want_none rfl, ?_⟩
            clear hp
            go_simp
            rfl
          refine Free.Seq.val ?_ (fun _ => Below.refl _ _) (fun a w1 hI hp => ?_) ?_
          rotate_left
          · have e69 := hp.backV 11 0 rfl rfl rfl rfl rfl; have e3 := hp.slotV 3 (by kernel_rfl) rfl; simp at e3
            refine ⟨hp.want rfl rfl rfl e69, ?_⟩
            clear hp
            go_simp
            rfl
          refine Free.Seq.call (T := Free.eqF (.int .i64 Z)) (fun _ _ _ h _ => h) (fun a w1 hI hp => ?_) ?_
          · have e69 := hp.backV 11 1 rfl rfl rfl rfl rfl; have e70 := hp.backV 12 0 rfl rfl rfl rfl rfl
            refine ⟨hp.want rfl rfl rfl e69, 16, #[.pointer (some ⟨w.heap.size, 0, none⟩)], ?_, ?_⟩
            · clear hp
              go_simp
            · refine (dinside_any _ (HM2.out.dc.below hI)).mono ?_
              rintro e w' ⟨rfl, rfl⟩
              exact ⟨_, rfl, by rw [HZ.out]; rfl, Below.refl _ _, hI⟩
          refine Free.Seq.val ?_ (fun _ => Below.refl _ _) (fun a w1 hI hp => ?_) ?_
          rotate_left
          · have e69 := hp.backV 11 2 rfl rfl rfl rfl rfl; have e4 := hp.slotV 4 (by kernel_rfl) rfl; simp at e4
            have k0 : w1.cell? ⟨r, 0, none⟩ = _ := (hI.cell (p := ⟨r, 0, none⟩) hrw).trans (cell_of_cells HRC.out 0)
            have k1 : w1.cell? ⟨r, 1, none⟩ = _ := (hI.cell (p := ⟨r, 1, none⟩) hrw).trans (cell_of_cells HRC.out 1)
            have k2 : w1.cell? ⟨r, 2, none⟩ = _ := (hI.cell (p := ⟨r, 2, none⟩) hrw).trans (cell_of_cells HRC.out 2)
            have k3 : w1.cell? ⟨r, 3, none⟩ = _ := (hI.cell (p := ⟨r, 3, none⟩) hrw).trans (cell_of_cells HRC.out 3)
            have k4 : w1.cell? ⟨r, 4, none⟩ = _ := (hI.cell (p := ⟨r, 4, none⟩) hrw).trans (cell_of_cells HRC.out 4)
            have k5 : w1.cell? ⟨r, 5, none⟩ = _ := (hI.cell (p := ⟨r, 5, none⟩) hrw).trans (cell_of_cells HRC.out 5)
            have k6 : w1.cell? ⟨r, 6, none⟩ = _ := (hI.cell (p := ⟨r, 6, none⟩) hrw).trans (cell_of_cells HRC.out 6)
            simp [rcs] at k0 k1 k2 k3 k4 k5 k6
            refine ⟨hp.want rfl rfl rfl e69, ?_⟩
            clear hp
            go_simp
            rfl
          refine Free.Seq.call (T := Free.eqF (.int .i64 Z)) (fun _ _ _ h _ => h) (fun a w1 hI hp => ?_) ?_
          · have e69 := hp.backV 11 3 rfl rfl rfl rfl rfl; have e72 := hp.backV 14 0 rfl rfl rfl rfl rfl
            refine ⟨hp.want rfl rfl rfl e69, 17, #[(.agg (rcs d' (.slice A4 d'.inn.length c4)))], ?_, ?_⟩
            · clear hp
              unfold rcs
              go_simp
            · refine (rinside_any _ d' A4 c4).mono ?_
              rintro e w' ⟨rfl, hb⟩
              exact ⟨_, rfl, by rw [HZ.out]; rfl, hb, hI.trans (hb.mono hI.size)⟩
          refine Free.Seq.val ?_ (fun _ => Below.refl _ _) (fun a w1 hI hp => ?_) ?_
          rotate_left
          · have e69 := hp.backV 11 4 rfl rfl rfl rfl rfl; have e71 := hp.backV 13 2 rfl rfl rfl rfl rfl; have e73 := hp.backV 15 0 rfl rfl rfl rfl rfl
            refine ⟨hp.want rfl rfl rfl e69, ?_⟩
            clear hp
            go_simp
            rfl
          refine Free.Seq.val ?_ (fun _ => Below.refl _ _) (fun a w1 hI hp => ?_) ?_
          rotate_left
          · have e69 := hp.backV 11 5 rfl rfl rfl rfl rfl; have e74 := hp.backV 16 0 rfl rfl rfl rfl rfl
            refine ⟨Free.want_none rfl, ?_⟩
            clear hp
            go_simp
            rfl
          refine Free.Seq.done (by simp) (fun wz hIz => ?_)
          simp only [List.reverse_cons, List.reverse_nil, List.nil_append, List.cons_append, Free.All, Free.eqF, forall_eq]
          have HIZ := Lib.hid hIz
          clear hIz
          simp only [Free.putL, Act.put, List.setIfInBounds_toArray, List.set_cons_zero, List.set_cons_succ]
          go_wp2_with fail
          go_roundw
          case rel =>
            have hm := HM2.out
            have hz := HIZ.out
            exact ⟨k + 1, by omega, by omega, by go_num, d', I', A4, c4, HOK'.out, HLE'.out, hm.dc.below hz, (hz.block r hrw).trans hm.rc, hm.rd.below hz, hm.off, hm.nw, hgr0, Nat.le_refl _, hm.bel.trans (hz.mono hm.bel.size)⟩
          case measure => simp [intOf]; omega
    · have hbel := hI.out.bel
      have HB := Lib.hid hbel
      rcases Nat.lt_or_ge k n with h1 | h1
      · obtain rfl : k = 30 := by omega
        clear hI hbel
        go_wp2_with fail
        refine (awake_any _).mono ?_
        rintro e w5 ⟨rfl, hb5⟩
        go_wp2
        go_ret
        exact ⟨rfl, HB.out.trans (hb5.mono HB.out.size)⟩
      · obtain rfl : k = n := by omega
        clear hI hbel
        go_wp2_with fail
        refine (awake_any _).mono ?_
        rintro e w5 ⟨rfl, hb5⟩
        go_wp2
        go_ret
        exact ⟨rfl, HB.out.trans (hb5.mono HB.out.size)⟩
end Go.Proofs.Ytpfilomckijmkaa
