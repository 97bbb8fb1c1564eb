/-
  HdlcParts: how bytes are parted into calls says nothing; a clone goes on likewise.
-/
import Derived.Test.YtpfilomckijmkaaHdlcRows
namespace Go.Proofs.Ytpfilomckijmkaa
open Go.RowKit

theorem Told.base {w : World} {C C' : Nat} {I : Value} {xs : List Value} {ls : List (List UInt8)} (h : Told w C I xs ls) (hC : C' ≤ C) : Told w C' I xs ls :=
  ⟨h.1, fun j l hj => by
    obtain ⟨A, c, h1, h2, h3⟩ := h.2 j l hj
    exact ⟨A, c, h1, h2.base fun k e => Nat.le_trans hC (h2.lt k e).1, h3⟩⟩
/-- the decoder that goes on is another one -/
theorem Told.kept2 {w w' : World} {C : Nat} {I I2 : Value} {xs : List Value} {ls : List (List UInt8)} (h : Told w C I xs ls) (hk : ∀ k c, w.heap[k]? = some (.cells c 5 (0, 0)) → I.ownBlock ≠ some k → w'.heap[k]? = w.heap[k]?) (h2 : ∀ k c, w.heap[k]? = some (.cells c 5 (0, 0)) → I.ownBlock ≠ some k → I2.ownBlock ≠ some k) : Told w' C I2 xs ls := by
  refine ⟨h.1, fun j l hj => ?_⟩
  obtain ⟨A, c, hx, hs, hap⟩ := h.2 j l hj
  refine ⟨A, c, hx, hs.kept fun k e => ?_, fun k e => ?_⟩
  · obtain ⟨cur, hc⟩ := hs.type k e
    exact hk k cur hc (hap k e)
  · obtain ⟨cur, hc⟩ := hs.type k e
    exact h2 k cur hc (hap k e)
theorem Told.append {w : World} {C : Nat} {I : Value} {xs ys : List Value} {ls ms : List (List UInt8)} (h : Told w C I xs ls) (h2 : Told w C I ys ms) : Told w C I (xs ++ ys) (ls ++ ms) := by
  refine ⟨by simp [h.1, h2.1], fun j l hj => ?_⟩
  rw [List.getElem?_append] at hj
  split at hj
  · obtain ⟨A, c, h3, h4⟩ := h.2 j l hj
    exact ⟨A, c, by rw [List.getElem?_append_left (by rw [h.1]; assumption)]; exact h3, h4⟩
  · obtain ⟨A, c, h3, h4⟩ := h2.2 _ l hj
    exact ⟨A, c, by rw [List.getElem?_append_right (by rw [h.1]; omega), h.1]; exact h3, h4⟩
theorem Told.one {w : World} {C : Nat} {I : Value} {xs : List Value} {ls : List (List UInt8)} (h : Told w C I xs ls) : ∀ u ∈ xs, u.oneCell' = true := by
  intro u hu
  obtain ⟨j, hj⟩ := List.mem_iff_getElem?.1 hu
  have hl : j < ls.length := by rw [← h.1]; exact (List.getElem?_eq_some_iff.1 hj).1
  obtain ⟨A, c, hx, _⟩ := h.2 j ls[j] (List.getElem?_eq_getElem hl)
  rw [hx] at hj
  injection hj with hj
  rw [← hj]
  rfl
theorem Dc.base {w : World} {B B' C g : Nat} {d : Hdl.Dec} {I : Value} (h : Dc w B C g d I (.slice none 0 0) [] []) (hB : B' ≤ B) : Dc w B' C g d I (.slice none 0 0) [] [] :=
  ⟨Nat.le_trans hB h.low, h.cow, h.obj, h.hi.base fun k e => Nat.le_trans hB (h.hi.lt k e).1, Sl.nil _ _ _, Told.nil _ _ _⟩

/-- what is so at a round's head: f bytes have gone in, in parts -/
structure PI (w w4 wr : World) (gb0 : Nat) (p : List UInt8) (f gb : Nat) (I : Value) (Ap : Option Addr) (np cp : Nat) (xs : List Value) : Prop where
  dc : Dc wr w.heap.size 0 gb (Hdl.feed Hdl.d0 (p.take f)).1 I (.slice none 0 0) [] []
  own : wr.ownsRow w4.heap.size 25 1 (.slice Ap np cp) np xs
  len : (Hdl.feed Hdl.d0 (p.take f)).2.length = np
  told : Told wr 0 I xs (Hdl.feed Hdl.d0 (p.take f)).2
  kept : Kept (fun k => k = gb0) w4 wr
  gg : gb = gb0 ∨ w4.heap.size ≤ gb
  ii : ∀ k, I.ownBlock = some k → w4.heap.size ≤ k
section
variable {w w4 wr : World} {gb0 : Nat} {p : List UInt8} {f gb : Nat} {I : Value} {Ap : Option Addr} {np cp : Nat} {xs : List Value}
theorem PI.off (h : PI w w4 wr gb0 p f gb I Ap np cp xs) : ∀ i, i < w4.heap.size → DcS gb I (.slice none 0 0) i → i = gb0 := by
  rintro i hi (h1 | h1 | h1)
  · rcases h.gg with h2 | h2 <;> omega
  · have := h.ii i h1
    omega
  · simp [Value.ownBlock] at h1
/-- the parts' row is none of the decoder's blocks -/
theorem PI.row (h : PI w w4 wr gb0 p f gb I Ap np cp xs) {k : Nat} (hk : Value.ownBlock (.slice Ap np cp) = some k) : ¬ DcS gb I (.slice none 0 0) k := by
  obtain ⟨c1, h1⟩ := row_type h.own hk
  rintro (h2 | h2 | h2)
  · subst h2
    exact ty_ne h1 h.dc.obj (by decide) rfl
  · obtain ⟨c2, h3⟩ := h.dc.hi.type k h2
    exact ty_ne h1 h3 (by decide) rfl
  · simp [Value.ownBlock] at h2
theorem dcs_byte {w1 : World} {g : Nat} {d : Hdl.Dec} {J : Value} {B C : Nat} (h : Dc w1 B C g d J (.slice none 0 0) [] []) {k : Nat} {c : Array Value} (hk : w1.heap[k]? = some (.cells c 5 (0, 0))) (hJ : J.ownBlock ≠ some k) : ¬ DcS g J (.slice none 0 0) k := by
  rintro (h2 | h2 | h2)
  · subst h2
    exact ty_ne hk h.obj (by decide) rfl
  · exact hJ h2
  · simp [Value.ownBlock] at h2
/-- a clone has been taken, and the old decoder has been fed -/
theorem PI.clone (h : PI w w4 wr gb0 p f gb I Ap np cp xs) {w5 w6 : World} {q : Nat} {Ic : Value} (hq : Dc w5 wr.heap.size 0 q (Hdl.feed Hdl.d0 (p.take f)).1 Ic (.slice none 0 0) [] []) (hb : Below wr.heap.size wr w5) (hk : Kept (DcS gb I (.slice none 0 0)) w5 w6) (hw : w.heap.size ≤ wr.heap.size) :
    PI w w4 w6 gb0 p f q Ic Ap np cp xs := by
  have hs4 := h.kept.size
  have hdis : ∀ i, DcS gb I (.slice none 0 0) i → i < wr.heap.size := by
    rintro i (h1 | h1 | h1)
    · rw [h1]; exact h.dc.lt
    · exact (h.dc.hi.lt i h1).2
    · simp [Value.ownBlock] at h1
  refine ⟨(hq.keep hk.size (hk.block q hq.lt fun hh => ?_) (fun k e => hk.block k (hq.hi.lt k e).2 fun hh => ?_)).base hw, ?_, h.len, ?_, ?_, .inr (Nat.le_trans hs4 hq.low), fun k e => Nat.le_trans hs4 (hq.hi.lt k e).1⟩
  · have := hdis q hh
    have := hq.low
    omega
  · have := hdis k hh
    have := (hq.hi.lt k e).1
    omega
  · refine row_keep h.own fun k e => ?_
    have hl := (World.ownsRow.lt h.own k e).2
    exact (hk.block k (by have := hb.size; omega) (h.row e)).trans (hb.block k hl)
  · refine h.told.kept2 (fun k c hc hI => ?_) (fun k c hc hI e => ?_)
    · have hl := (Array.getElem?_eq_some_iff.1 hc).1
      exact (hk.block k (by have := hb.size; omega) (dcs_byte h.dc hc hI)).trans (hb.block k hl)
    · have hl := (Array.getElem?_eq_some_iff.1 hc).1
      have := (hq.hi.lt k e).1
      omega
  · refine (h.kept.trans (Kept.all (S := fun _ => False) hb) (fun _ _ e => e.elim)).trans hk fun i hi e => h.off i hi e
/-- bytes have been fed, what was told has been laid behind the parts -/
theorem PI.feed (h : PI w w4 wr gb0 p f gb I Ap np cp xs) {w7 w8 : World} {C t : Nat} {d2 : Hdl.Dec} {I2 : Value} {n3 : Nat} {xs3 : List Value} {ls3 : List (List UInt8)} (hd : Dc w7 w.heap.size C gb d2 I2 (.slice none 0 0) [] []) (hn3 : ls3.length = n3) (ht : Told w7 C I2 xs3 ls3) (hk : Kept (DcS gb I (.slice none 0 0)) wr w7) (hi : Anew wr I I2)
    (hf : Hdl.feed Hdl.d0 (p.take t) = (d2, (Hdl.feed Hdl.d0 (p.take f)).2 ++ ls3)) {A' : Option Addr} {c' : Nat} (ho : w8.ownsRow w4.heap.size 25 1 (.slice A' (np + n3) c') (np + n3) (xs ++ xs3)) (hg : w7.grownBy w8 (Value.ownBlock (.slice Ap np cp))) :
    PI w w4 w8 gb0 p t gb I2 A' (np + n3) c' (xs ++ xs3) := by
  have hs4 := h.kept.size
  have hrow : ∀ k, Value.ownBlock (.slice Ap np cp) = some k → w7.heap[k]? = wr.heap[k]? := fun k e => hk.block k (World.ownsRow.lt h.own k e).2 (h.row e)
  have hrt : ∀ (k : Nat) (c : Array Value) (T : TypeId), w7.heap[k]? = some (Obj.cells c T (0, 0)) → T ≠ 25 → Value.ownBlock (.slice Ap np cp) ≠ some k := fun k c T hc hT e => by
    obtain ⟨c1, h1⟩ := row_type h.own e
    rw [← hrow k e] at h1
    exact ty_ne hc h1 hT rfl
  have hby : ∀ (k : Nat) (c : Array Value), w7.heap[k]? = some (Obj.cells c 5 (0, 0)) → w8.heap[k]? = w7.heap[k]? := fun k c hc => hg.block k (Array.getElem?_eq_some_iff.1 hc).1 fun e => hrt k c _ hc (by decide) e.symm
  have hd' := (hd.recut (Nat.zero_le _)).keep hg.size (hg.block gb hd.lt fun e => hrt gb _ _ hd.obj (by decide) e.symm) (fun k e => by
    obtain ⟨cur, hc⟩ := hd.hi.type k e
    exact hby k cur hc)
  refine ⟨by rw [hf]; exact hd', ho, by rw [hf, List.length_append, h.len, hn3], ?_, ?_, h.gg, fun k e => ?_⟩
  · rw [hf]
    refine Told.append ?_ ((ht.base (Nat.zero_le _)).kept (fun k c hc _ => hby k c hc) (.refl _ _))
    refine (h.told.kept (fun k c hc hI => hk.block k (Array.getElem?_eq_some_iff.1 hc).1 (dcs_byte h.dc hc hI)) hi).kept (fun k c hc _ => hby k c hc) (.refl _ _)
  · refine (h.kept.trans hk fun i hi e => h.off i hi e).grown hg fun k e => ?_
    exact .inr (World.ownsRow.lt h.own k e).1
  · rcases hi k e with h1 | h1
    · exact h.ii k h1
    · omega
/-- all bytes have gone in -/
theorem PI.last {np2 m ga : Nat} {Ia : Value} {ls : List (List UInt8)} (h : PI w w4 wr gb0 p m gb I Ap np2 cp xs) (hm : p.length = m) (hls : ls = (Hdl.feed Hdl.d0 p).2) (hlen : ∀ l ∈ ls, l.length ≤ 128) (hn : np2 ≤ 3000)
    (hda : Dc w4 w.heap.size 0 ga (Hdl.feed Hdl.d0 p).1 Ia (.slice none 0 0) [] []) {N2 : Nat} (hia : ∀ k, Ia.ownBlock = some k → N2 ≤ k) (hb : Below w.heap.size w w4) (hg : ga < gb0) (h2 : gb0 < N2 ∧ w.heap.size ≤ gb0) :
    Dc wr w.heap.size 0 ga (Hdl.feed Hdl.d0 p).1 Ia (.slice none 0 0) [] [] ∧ RdL wr Ap np2 cp ls ∧ Below w.heap.size w wr := by
  have e : p.take m = p := List.take_of_length_le (by omega)
  have hlen2 := h.len
  have htold := h.told
  rw [e, ← hls] at hlen2 htold
  refine ⟨hda.keep h.kept.size (h.kept.block ga hda.lt (by omega)) (fun k hk => h.kept.block k (hda.hi.lt k hk).2 (by have := hia k hk; omega)), ?_, hb.trans (h.kept.below hb.size (fun i hi e => by omega))⟩
  have hc := RdC.of_row h.own (by omega)
  refine ⟨hlen2, hc.cap, hc.big, fun h0 => ?_⟩
  obtain ⟨b2, off2, e2, hb2, hcell⟩ := hc.at_ h0
  refine ⟨b2, off2, e2, hb2, fun j l hj => ?_⟩
  obtain ⟨A', c', h3, h4, _⟩ := htold.2 j l hj
  exact ⟨A', l.length, c', hcell j _ h3, h4.rd (by have := hlen l (List.mem_of_getElem? hj); omega)⟩
end

set_option maxRecDepth 100000 in
set_option maxHeartbeats 4000000 in
/-- HdlcParts -/
theorem parts_law (A : Option Addr) (n c : Nat) (l : List UInt8) (A1 : Option Addr) (n1 c1 : Nat) (zs : List Int) (w : World) (hR : Rd w A n c l) (hZ : RdC w A1 n1 c1 1 (ints zs)) :
    Calls Try.prog 4 #[.slice A n c, .slice A1 n1 c1] w fun e w' => e = .returned (.bool true) ∧ Below w.heap.size w w' := by
  have HR := Lib.hid hR
  have HZ := Lib.hid hZ
  have hn1 := hZ.big
  obtain ⟨m, hm⟩ : ∃ m, m = min n 3000 := ⟨_, rfl⟩
  have hm3 : m ≤ 3000 := by omega
  have hcut : ∀ W, Rd W A n c l → Calls Try.prog 11 #[.slice A n c] W fun e w' => e = .returned (.slice A m c) ∧ W = w' := fun W h => by rw [hm]; exact cut_any W A n c l h
  have hr3 : Rd w A m c (l.take m) := hR.take (by omega)
  obtain ⟨p, hp⟩ : ∃ p, p = l.take m := ⟨_, rfl⟩
  rw [← hp] at hr3
  have HCUT := Lib.hid hcut
  have HR3 := Lib.hid hr3
  have hcapp := hr3.cap
  clear hR hZ hcut hr3 hp hm
  go_enter Try.func4, Try.ntmps4
  go_wp2_with fail
  refine (dnew_any w).mono ?_
  rintro e w1 ⟨rfl, hda, hb⟩
  have hlta := hda.lt
  have hbs := hb.size
  go_wp2_with fail
  refine (dnew_any w1).mono ?_
  rintro e w2 ⟨rfl, hdb, hb2⟩
  have hltb := hdb.lt
  have hbs2 := hb2.size
  have HB2 := Lib.hid (hb.trans (hb2.mono hbs))
  have HDA := Lib.hid (hda.below hb2)
  have HDB := Lib.hid hdb
  clear hda hdb hb hb2
  go_wp2_with fail
  refine (HCUT.out w2 (HR.out.below HB2.out)).mono ?_
  rintro e w3 ⟨rfl, rfl⟩
  have hfd := dfeed_any (d := Hdl.d0) w2 A m c p (HDA.out.recut (Nat.le_refl _)) (HR3.out.below HB2.out) (fun h0 b off e h => by
      obtain ⟨b2, off2, e2, hb2, _⟩ := HR3.out.at_ h0
      rw [e] at e2
      injection e2 with e2
      injection e2 with e2
      rcases h with h | h | h
      · omega
      · simp [Value.ownBlock] at h
      · simp [Value.ownBlock] at h) Hdl.ok0 0 Hdl.le0 (by omega) (by simp; omega)
  rw [List.nil_append] at hfd
  have HFD := Lib.hid hfd
  clear hfd
  go_wp2_with fail
  refine HFD.out.mono ?_
  rintro e w4 ⟨Ia, A3, c3, xs3, rfl, hd4, hs4, ht4, hk4, hi4, ha4⟩
  have hs24 := hk4.size
  have hdis : ∀ i, DcS w.heap.size (.slice none 0 0) (.slice none 0 0) i → i = w.heap.size := by
    rintro i (h1 | h1 | h1)
    · exact h1
    · simp [Value.ownBlock] at h1
    · simp [Value.ownBlock] at h1
  obtain ⟨ls, hls⟩ : ∃ ls, ls = (Hdl.feed Hdl.d0 p).2 := ⟨_, rfl⟩
  have hlsl : ls.length ≤ 3000 := by rw [hls]; have := Hdl.told_feed p Hdl.d0; rw [HR3.out.len] at this; omega
  have hlen : ∀ l' ∈ ls, l'.length ≤ 128 := by rw [hls]; exact Hdl.feed_len p Hdl.d0
  rw [← hls] at hs4 ht4 ha4 ⊢
  have hwh : RdLN w4 w2.heap.size A3 ls.length c3 ls := Told.rdl hs4 ht4 (fun q e => by
    rcases ha4 q e with h | h
    · simp [Value.ownBlock] at h
    · exact h) rfl (by omega) hlen
  obtain ⟨ga, hga⟩ : ∃ ga, ga = w.heap.size := ⟨_, rfl⟩
  obtain ⟨gb0, hgb0⟩ : ∃ gb0, gb0 = w1.heap.size := ⟨_, rfl⟩
  have hda4 : Dc w4 w.heap.size 0 ga (Hdl.feed Hdl.d0 p).1 Ia (.slice none 0 0) [] [] := by rw [hga]; exact hd4.recut (Nat.zero_le _)
  have hia : ∀ k, Ia.ownBlock = some k → w2.heap.size ≤ k := fun k e => by
    rcases hi4 k e with h | h
    · simp [Value.ownBlock] at h
    · exact h
  have hdb4 : Dc w4 w.heap.size 0 gb0 Hdl.d0 (.slice none 0 0) (.slice none 0 0) [] [] := by
    rw [hgb0]
    exact (HDB.out.keep hs24 (hk4.block _ hltb fun h => by have := hdis _ h; omega) (fun k e => by simp [Value.ownBlock] at e)).base hbs
  have hbel4 : Below w.heap.size w w4 := HB2.out.trans (hk4.below (by omega) (fun i hi h => by have := hdis i h; omega))
  have hba : Below w4.heap.size w4 (w4.alloc (.cells #[] 25)) := (Below.refl _ _).alloc (Nat.le_refl _) _
  have hpi : PI w w4 (w4.alloc (.cells #[] 25)) gb0 p 0 gb0 (.slice none 0 0) (some ⟨w4.heap.size, 0, none⟩) 0 0 [] :=
    ⟨by rw [List.take_zero]; exact hdb4.below hba, own_empty _ _ _ _ 1 rfl (Nat.le_refl _), by rw [List.take_zero]; rfl, by rw [List.take_zero]; exact Told.nil _ _ _, Kept.all hba, .inl rfl, fun k e => by simp [Value.ownBlock] at e⟩
  have HPI := Lib.hid hpi
  have HDA4 := Lib.hid hda4
  have HWH := Lib.hid hwh
  have HLS := Lib.hid hls
  have HLEN := Lib.hid hlen
  have HIA := Lib.hid hia
  have HBEL := Lib.hid hbel4
  have HGA := Lib.hid hga
  have HGB := Lib.hid hgb0
  have hgab : ga < gb0 := by omega
  have hgb2 : gb0 < w2.heap.size := by omega
  have hga0 : w.heap.size ≤ ga := by omega
  have hw4 : w2.heap.size ≤ w4.heap.size := hs24
  clear hpi hda4 hdb4 hwh hls hlen hia hbel4 hba hd4 hs4 ht4 hk4 hi4 ha4 hdis hs24 hga hgb0
  rw [← HGA.out, ← HGB.out]
  clear hlta hltb hbs hbs2
  go_wp2_with fail
  go_loopw [6, 8, 9, 10] (fun dv pv fv iv wr => ∃ k f gb I Ap np cp xs, k ≤ n1 + 1 ∧ k ≤ 40 ∧ iv = .int .i64 (k : Nat) ∧ f ≤ m ∧ fv = .int .i64 (f : Nat) ∧ dv = .pointer (some ⟨gb, 0, none⟩) ∧ pv = .slice Ap np cp ∧ np ≤ 3000 ∧ Hid (PI w w4 wr gb0 p f gb I Ap np cp xs)) (fun _ _ _ iv _ => n1 + 1 - (intOf iv).toNat)
  case atStart => exact ⟨0, 0, gb0, _, _, 0, 0, [], by omega, by omega, rfl, by omega, rfl, rfl, rfl, by omega, HPI⟩
  case round =>
    obtain ⟨k, f, gb, I, Ap, np, cp, xs, hk, hk40, rfl, hf, rfl, rfl, rfl, hnp, hI⟩ := hrel
    by_cases hgo : k ≤ n1 ∧ k < 40
    · obtain ⟨hk1, hk2⟩ := hgo
      have hbw : Below w.heap.size w wr := HBEL.out.trans (hI.out.kept.below HBEL.out.size (fun i hi e => by omega))
      have HBW := Lib.hid hbw
      clear hbw
      by_cases hz : k < n1 ∧ k < 39
      · obtain ⟨hz1, hz2⟩ := hz
        obtain ⟨b2, off2, z, rfl, hb2, hzc⟩ := HZ.out.num hz1
        have hz4 := (HBW.out.cell (p := ⟨b2, off2 + k, none⟩) hb2).trans hzc
        by_cases hzf : (f : Int) ≤ z
        · by_cases hzm : z < (m : Int)
          · obtain ⟨t, rfl⟩ : ∃ t : Nat, z = (t : Int) := ⟨z.toNat, by omega⟩
            have hft : f ≤ t := by omega
            have htm : t ≤ m := by omega
            have hokf := Hdl.ok_feed (p.take f) Hdl.ok0
            have hlef := Hdl.le_feed (p.take f) Hdl.le0
            have hlf : (p.take f).length ≤ f := List.length_take_le _ _
            have hdis : ∀ i, DcS gb I (.slice none 0 0) i → i < wr.heap.size := by
              rintro i (h1 | h1 | h1)
              · rw [h1]; exact hI.out.dc.lt
              · exact (hI.out.dc.hi.lt i h1).2
              · simp [Value.ownBlock] at h1
            have hpt : p.take t = p.take f ++ (p.take t).drop f := by
              have h1 : (p.take t).take f = p.take f := by rw [List.take_take, Nat.min_eq_left hft]
              have h2 := List.take_append_drop f (p.take t)
              rw [h1] at h2
              exact h2.symm
            have hfe := Hdl.feed_append (p.take f) ((p.take t).drop f) Hdl.d0
            rw [← hpt] at hfe
            have hrs := (HR3.out.take (k := t) htm).drop (k := f) hft
            rw [if_neg (by omega)] at hrs
            have hslb : ∀ b off, (A.map (·.add f)) = some ⟨b, off, none⟩ → 0 < (t - f) → b < w.heap.size := fun b off e h0 => by
              obtain ⟨b', off', e', hb', _⟩ := hrs.at_ h0
              rw [e] at e'
              injection e' with e'
              injection e' with e'
              omega
            obtain ⟨df, hdf⟩ : ∃ df, df = (Hdl.feed Hdl.d0 (p.take f)).1 := ⟨_, rfl⟩
            have hdcI := hI.out.dc
            rw [← hdf] at hokf hlef hfe hdcI
            obtain ⟨ls3, hls3⟩ : ∃ ls3, ls3 = (Hdl.feed df ((p.take t).drop f)).2 := ⟨_, rfl⟩
            obtain ⟨d2, hd2⟩ : ∃ d2, d2 = (Hdl.feed df ((p.take t).drop f)).1 := ⟨_, rfl⟩
            have htt := Hdl.told_feed (p.take t) Hdl.d0
            rw [← hls3, ← hd2] at hfe
            have hclo := dclone_any wr hdcI hokf.1
            have HOKF := Lib.hid hokf
            have HLEF := Lib.hid (hlef.mono (by omega : 0 + (p.take f).length ≤ 3000))
            have HDIS := Lib.hid hdis
            have HFE := Lib.hid hfe
            have HTT := Lib.hid htt
            have HRS := Lib.hid hrs
            have HSLB := Lib.hid hslb
            have HDF := Lib.hid hdf
            have HLS3 := Lib.hid hls3
            have HD2 := Lib.hid hd2
            have HDI := Lib.hid hdcI
            have HCLO := Lib.hid hclo
            clear hokf hlef hdis hpt hfe htt hrs hslb hdf hls3 hd2 hdcI hclo hlf
            go_wp2_with fail
            refine HCLO.out.mono ?_
            rintro e w5 ⟨q, Ac, cc, rfl, hq, hdc, hb5⟩
            have hs5 := hb5.size
            have hbl : Below w5.heap.size w5 (w5.alloc (.cells (bs [0x7e, 1, 2, 3, 0x7e]).toArray 5)) := (Below.refl _ _).alloc (Nat.le_refl _) _
            have hlow := HDI.out.low
            have hfd1 := dfeed_any (xs := []) (told := []) (w5.alloc (.cells (bs [0x7e, 1, 2, 3, 0x7e]).toArray 5)) (some ⟨w5.heap.size, 0, none⟩) 5 5 [0x7e, 1, 2, 3, 0x7e] ((HDI.out.below (hb5.trans (hbl.mono hs5))).recut (Nat.zero_le _)) (rd_lit w5 [0x7e, 1, 2, 3, 0x7e] 5 rfl (by omega) _ _) (fun h0 b off e h => by
                have h1 := HDIS.out b h
                injection e with e
                injection e with e
                omega) HOKF.out 3000 HLEF.out (by omega) (by simp)
            have HDC := Lib.hid hdc
            have HB5 := Lib.hid hb5
            have HBL := Lib.hid hbl
            have HFD1 := Lib.hid hfd1
            clear hdc hb5 hbl hfd1
            go_wp2_with fail
            refine HFD1.out.mono ?_
            rintro e w6 ⟨I6, A6, c6, xs6, rfl, _, _, _, hk6, _, _⟩
            have hdcq : Dc (w5.alloc (.cells (bs [0x7e, 1, 2, 3, 0x7e]).toArray 5)) wr.heap.size 0 q (Hdl.feed Hdl.d0 (p.take f)).1 (.slice Ac df.inn.length cc) (.slice none 0 0) [] [] := by
              rw [← HDF.out]
              exact HDC.out.below HBL.out
            have hp6 := hI.out.clone hdcq (HB5.out.trans (HBL.out.mono hs5)) hk6 (by have := HBW.out.size; omega)
            have HP6 := Lib.hid hp6
            have hb6 : Below w.heap.size w w6 := HBEL.out.trans (hp6.kept.below HBEL.out.size (fun i hi e => by omega))
            have hdc6 := hp6.dc
            rw [← HDF.out] at hdc6
            have hqr : wr.heap.size ≤ q := hq
            have hfd2 := dfeed_any (xs := []) (told := []) w6 (A.map (·.add f)) (t - f) (c - f) ((p.take t).drop f) (hdc6.recut (Nat.le_refl _)) (HRS.out.below hb6) (fun h0 b off e h => by
                have h1 := HSLB.out b off e h0
                have h2 := HBW.out.size
                rcases h with h | h | h
                · omega
                · have := (hdc6.hi.lt b h).1
                  omega
                · simp [Value.ownBlock] at h) HOKF.out 3000 HLEF.out (by omega) (by simp <;> omega)
            rw [List.nil_append, ← HLS3.out, ← HD2.out] at hfd2
            have HFD2 := Lib.hid hfd2
            clear hk6 hdcq hp6 hb6 hdc6 hfd2
            go_wp2_with fail
            refine HFD2.out.mono ?_
            rintro e w7 ⟨I7, A7, c7, xs7, rfl, hd7, hs7, ht7, hk7, hi7, _⟩
            have hone := ht7.one
            obtain ⟨n3, hn3⟩ : ∃ n3, n3 = ls3.length := ⟨_, rfl⟩
            rw [← hn3] at hs7 ⊢
            have hown7 : w7.ownsRow w4.heap.size 25 1 (.slice Ap np cp) np xs := row_keep HP6.out.own fun k e => hk7.block k (World.ownsRow.lt HP6.out.own k e).2 (HP6.out.row e)
            have hlen7 : np + n3 ≤ 3000 := by
              have h1 := HTT.out
              rw [HFE.out] at h1
              have h2 := List.length_take_le t p
              have h3 := HP6.out.len
              simp only [List.length_append] at h1
              omega
            have hsz7 : w4.heap.size ≤ w7.heap.size := Nat.le_trans HP6.out.kept.size hk7.size
            have HSRC := Lib.hid (hs7.src hone)
            have HOW7 := Lib.hid hown7
            have HFIN : Hid (∀ (A' : Option Addr) (c' : Nat) (w8 : World), w8.ownsRow w4.heap.size 25 1 (.slice A' (np + n3) c') (np + n3) (xs ++ xs7) → w7.grownBy w8 (Value.ownBlock (.slice Ap np cp)) → PI w w4 w8 gb0 p t q I7 A' (np + n3) c' (xs ++ xs7)) := fun A' c' w8 h1 h2 => HP6.out.feed hd7 hn3.symm ht7 hk7 hi7 HFE.out h1 h2
            clear hd7 hs7 ht7 hk7 hi7 hone hown7 hn3
            go_wp2_with ((with_reducible show wpList _ _ _ (⟨some 82, _, _, _, _, _⟩ :: _) _ _); refine wpList_app _ rfl elemL (.tmp 75) (.tmp 81) rfl rfl HOW7.out rfl HSRC.out (np + n3) rfl (by omega) hsz7 ?_; intro A8 c8 w8 hown8 hg8 _; have HP8 := Lib.hid (HFIN.out A8 c8 w8 hown8 hg8); clear hown8 hg8)
            go_roundw
            case rel => exact ⟨k + 1, t, q, I7, A8, np + n3, c8, _, by omega, by omega, by go_num, htm, rfl, rfl, rfl, hlen7, HP8⟩
            case measure => simp [intOf] <;> omega
          · skip
            by_cases hcf : c = f
            · obtain rfl : f = m := by omega
              obtain rfl : f = c := hcf.symm
              have hft : f ≤ f := Nat.le_refl _
              have htm : f ≤ f := Nat.le_refl _
              have hokf := Hdl.ok_feed (p.take f) Hdl.ok0
              have hlef := Hdl.le_feed (p.take f) Hdl.le0
              have hlf : (p.take f).length ≤ f := List.length_take_le _ _
              have hdis : ∀ i, DcS gb I (.slice none 0 0) i → i < wr.heap.size := by
                rintro i (h1 | h1 | h1)
                · rw [h1]; exact hI.out.dc.lt
                · exact (hI.out.dc.hi.lt i h1).2
                · simp [Value.ownBlock] at h1
              have hpt : p.take f = p.take f ++ (p.take f).drop f := by
                have h1 : (p.take f).take f = p.take f := by rw [List.take_take, Nat.min_eq_left hft]
                have h2 := List.take_append_drop f (p.take f)
                rw [h1] at h2
                exact h2.symm
              have hfe := Hdl.feed_append (p.take f) ((p.take f).drop f) Hdl.d0
              rw [← hpt] at hfe
              have hrs : Rd w A 0 0 ((p.take f).drop f) := by
                have h1 : (p.take f).drop f = [] := List.eq_nil_of_length_eq_zero (by rw [List.length_drop, List.length_take]; omega)
                rw [h1]
                exact Rd.nil _ _ _
              have hslb : ∀ b off, A = some ⟨b, off, none⟩ → 0 < 0 → b < w.heap.size := fun b off e h0 => by
                obtain ⟨b', off', e', hb', _⟩ := hrs.at_ h0
                rw [e] at e'
                injection e' with e'
                injection e' with e'
                omega
              obtain ⟨df, hdf⟩ : ∃ df, df = (Hdl.feed Hdl.d0 (p.take f)).1 := ⟨_, rfl⟩
              have hdcI := hI.out.dc
              rw [← hdf] at hokf hlef hfe hdcI
              obtain ⟨ls3, hls3⟩ : ∃ ls3, ls3 = (Hdl.feed df ((p.take f).drop f)).2 := ⟨_, rfl⟩
              obtain ⟨d2, hd2⟩ : ∃ d2, d2 = (Hdl.feed df ((p.take f).drop f)).1 := ⟨_, rfl⟩
              have htt := Hdl.told_feed (p.take f) Hdl.d0
              rw [← hls3, ← hd2] at hfe
              have hclo := dclone_any wr hdcI hokf.1
              have HOKF := Lib.hid hokf
              have HLEF := Lib.hid (hlef.mono (by omega : 0 + (p.take f).length ≤ 3000))
              have HDIS := Lib.hid hdis
              have HFE := Lib.hid hfe
              have HTT := Lib.hid htt
              have HRS := Lib.hid hrs
              have HSLB := Lib.hid hslb
              have HDF := Lib.hid hdf
              have HLS3 := Lib.hid hls3
              have HD2 := Lib.hid hd2
              have HDI := Lib.hid hdcI
              have HCLO := Lib.hid hclo
              clear hokf hlef hdis hpt hfe htt hrs hslb hdf hls3 hd2 hdcI hclo hlf
              go_wp2_with fail
              refine HCLO.out.mono ?_
              rintro e w5 ⟨q, Ac, cc, rfl, hq, hdc, hb5⟩
              have hs5 := hb5.size
              have hbl : Below w5.heap.size w5 (w5.alloc (.cells (bs [0x7e, 1, 2, 3, 0x7e]).toArray 5)) := (Below.refl _ _).alloc (Nat.le_refl _) _
              have hlow := HDI.out.low
              have hfd1 := dfeed_any (xs := []) (told := []) (w5.alloc (.cells (bs [0x7e, 1, 2, 3, 0x7e]).toArray 5)) (some ⟨w5.heap.size, 0, none⟩) 5 5 [0x7e, 1, 2, 3, 0x7e] ((HDI.out.below (hb5.trans (hbl.mono hs5))).recut (Nat.zero_le _)) (rd_lit w5 [0x7e, 1, 2, 3, 0x7e] 5 rfl (by omega) _ _) (fun h0 b off e h => by
                  have h1 := HDIS.out b h
                  injection e with e
                  injection e with e
                  omega) HOKF.out 3000 HLEF.out (by omega) (by simp)
              have HDC := Lib.hid hdc
              have HB5 := Lib.hid hb5
              have HBL := Lib.hid hbl
              have HFD1 := Lib.hid hfd1
              clear hdc hb5 hbl hfd1
              go_wp2_with fail
              refine HFD1.out.mono ?_
              rintro e w6 ⟨I6, A6, c6, xs6, rfl, _, _, _, hk6, _, _⟩
              have hdcq : Dc (w5.alloc (.cells (bs [0x7e, 1, 2, 3, 0x7e]).toArray 5)) wr.heap.size 0 q (Hdl.feed Hdl.d0 (p.take f)).1 (.slice Ac df.inn.length cc) (.slice none 0 0) [] [] := by
                rw [← HDF.out]
                exact HDC.out.below HBL.out
              have hp6 := hI.out.clone hdcq (HB5.out.trans (HBL.out.mono hs5)) hk6 (by have := HBW.out.size; omega)
              have HP6 := Lib.hid hp6
              have hb6 : Below w.heap.size w w6 := HBEL.out.trans (hp6.kept.below HBEL.out.size (fun i hi e => by omega))
              have hdc6 := hp6.dc
              rw [← HDF.out] at hdc6
              have hqr : wr.heap.size ≤ q := hq
              have hfd2 := dfeed_any (xs := []) (told := []) w6 A 0 0 ((p.take f).drop f) (hdc6.recut (Nat.le_refl _)) (HRS.out.below hb6) (fun h0 b off e h => by
                  have h1 := HSLB.out b off e h0
                  have h2 := HBW.out.size
                  rcases h with h | h | h
                  · omega
                  · have := (hdc6.hi.lt b h).1
                    omega
                  · simp [Value.ownBlock] at h) HOKF.out 3000 HLEF.out (by omega) (by simp <;> omega)
              rw [List.nil_append, ← HLS3.out, ← HD2.out] at hfd2
              have HFD2 := Lib.hid hfd2
              clear hk6 hdcq hp6 hb6 hdc6 hfd2
              go_wp2_with fail
              refine HFD2.out.mono ?_
              rintro e w7 ⟨I7, A7, c7, xs7, rfl, hd7, hs7, ht7, hk7, hi7, _⟩
              have hone := ht7.one
              obtain ⟨n3, hn3⟩ : ∃ n3, n3 = ls3.length := ⟨_, rfl⟩
              rw [← hn3] at hs7 ⊢
              have hown7 : w7.ownsRow w4.heap.size 25 1 (.slice Ap np cp) np xs := row_keep HP6.out.own fun k e => hk7.block k (World.ownsRow.lt HP6.out.own k e).2 (HP6.out.row e)
              have hlen7 : np + n3 ≤ 3000 := by
                have h1 := HTT.out
                rw [HFE.out] at h1
                have h2 := List.length_take_le f p
                have h3 := HP6.out.len
                simp only [List.length_append] at h1
                omega
              have hsz7 : w4.heap.size ≤ w7.heap.size := Nat.le_trans HP6.out.kept.size hk7.size
              have HSRC := Lib.hid (hs7.src hone)
              have HOW7 := Lib.hid hown7
              have HFIN : Hid (∀ (A' : Option Addr) (c' : Nat) (w8 : World), w8.ownsRow w4.heap.size 25 1 (.slice A' (np + n3) c') (np + n3) (xs ++ xs7) → w7.grownBy w8 (Value.ownBlock (.slice Ap np cp)) → PI w w4 w8 gb0 p f q I7 A' (np + n3) c' (xs ++ xs7)) := fun A' c' w8 h1 h2 => HP6.out.feed hd7 hn3.symm ht7 hk7 hi7 HFE.out h1 h2
              clear hd7 hs7 ht7 hk7 hi7 hone hown7 hn3
              go_wp2_with ((with_reducible show wpList _ _ _ (⟨some 82, _, _, _, _, _⟩ :: _) _ _); refine wpList_app _ rfl elemL (.tmp 75) (.tmp 81) rfl rfl HOW7.out rfl HSRC.out (np + n3) rfl (by omega) hsz7 ?_; intro A8 c8 w8 hown8 hg8 _; have HP8 := Lib.hid (HFIN.out A8 c8 w8 hown8 hg8); clear hown8 hg8)
              go_roundw
              case rel => exact ⟨k + 1, f, q, I7, A8, np + n3, c8, _, by omega, by omega, by go_num, htm, rfl, rfl, rfl, hlen7, HP8⟩
              case measure => simp [intOf] <;> omega
            · obtain ⟨t, rfl⟩ : ∃ t, t = m := ⟨_, rfl⟩
              have hft : f ≤ t := hf
              have htm : t ≤ t := Nat.le_refl _
              have hokf := Hdl.ok_feed (p.take f) Hdl.ok0
              have hlef := Hdl.le_feed (p.take f) Hdl.le0
              have hlf : (p.take f).length ≤ f := List.length_take_le _ _
              have hdis : ∀ i, DcS gb I (.slice none 0 0) i → i < wr.heap.size := by
                rintro i (h1 | h1 | h1)
                · rw [h1]; exact hI.out.dc.lt
                · exact (hI.out.dc.hi.lt i h1).2
                · simp [Value.ownBlock] at h1
              have hpt : p.take t = p.take f ++ (p.take t).drop f := by
                have h1 : (p.take t).take f = p.take f := by rw [List.take_take, Nat.min_eq_left hft]
                have h2 := List.take_append_drop f (p.take t)
                rw [h1] at h2
                exact h2.symm
              have hfe := Hdl.feed_append (p.take f) ((p.take t).drop f) Hdl.d0
              rw [← hpt] at hfe
              have hrs := (HR3.out.take (k := t) htm).drop (k := f) hft
              rw [if_neg (by omega)] at hrs
              have hslb : ∀ b off, (A.map (·.add f)) = some ⟨b, off, none⟩ → 0 < (t - f) → b < w.heap.size := fun b off e h0 => by
                obtain ⟨b', off', e', hb', _⟩ := hrs.at_ h0
                rw [e] at e'
                injection e' with e'
                injection e' with e'
                omega
              obtain ⟨df, hdf⟩ : ∃ df, df = (Hdl.feed Hdl.d0 (p.take f)).1 := ⟨_, rfl⟩
              have hdcI := hI.out.dc
              rw [← hdf] at hokf hlef hfe hdcI
              obtain ⟨ls3, hls3⟩ : ∃ ls3, ls3 = (Hdl.feed df ((p.take t).drop f)).2 := ⟨_, rfl⟩
              obtain ⟨d2, hd2⟩ : ∃ d2, d2 = (Hdl.feed df ((p.take t).drop f)).1 := ⟨_, rfl⟩
              have htt := Hdl.told_feed (p.take t) Hdl.d0
              rw [← hls3, ← hd2] at hfe
              have hclo := dclone_any wr hdcI hokf.1
              have HOKF := Lib.hid hokf
              have HLEF := Lib.hid (hlef.mono (by omega : 0 + (p.take f).length ≤ 3000))
              have HDIS := Lib.hid hdis
              have HFE := Lib.hid hfe
              have HTT := Lib.hid htt
              have HRS := Lib.hid hrs
              have HSLB := Lib.hid hslb
              have HDF := Lib.hid hdf
              have HLS3 := Lib.hid hls3
              have HD2 := Lib.hid hd2
              have HDI := Lib.hid hdcI
              have HCLO := Lib.hid hclo
              clear hokf hlef hdis hpt hfe htt hrs hslb hdf hls3 hd2 hdcI hclo hlf
              go_wp2_with fail
              refine HCLO.out.mono ?_
              rintro e w5 ⟨q, Ac, cc, rfl, hq, hdc, hb5⟩
              have hs5 := hb5.size
              have hbl : Below w5.heap.size w5 (w5.alloc (.cells (bs [0x7e, 1, 2, 3, 0x7e]).toArray 5)) := (Below.refl _ _).alloc (Nat.le_refl _) _
              have hlow := HDI.out.low
              have hfd1 := dfeed_any (xs := []) (told := []) (w5.alloc (.cells (bs [0x7e, 1, 2, 3, 0x7e]).toArray 5)) (some ⟨w5.heap.size, 0, none⟩) 5 5 [0x7e, 1, 2, 3, 0x7e] ((HDI.out.below (hb5.trans (hbl.mono hs5))).recut (Nat.zero_le _)) (rd_lit w5 [0x7e, 1, 2, 3, 0x7e] 5 rfl (by omega) _ _) (fun h0 b off e h => by
                  have h1 := HDIS.out b h
                  injection e with e
                  injection e with e
                  omega) HOKF.out 3000 HLEF.out (by omega) (by simp)
              have HDC := Lib.hid hdc
              have HB5 := Lib.hid hb5
              have HBL := Lib.hid hbl
              have HFD1 := Lib.hid hfd1
              clear hdc hb5 hbl hfd1
              go_wp2_with fail
              refine HFD1.out.mono ?_
              rintro e w6 ⟨I6, A6, c6, xs6, rfl, _, _, _, hk6, _, _⟩
              have hdcq : Dc (w5.alloc (.cells (bs [0x7e, 1, 2, 3, 0x7e]).toArray 5)) wr.heap.size 0 q (Hdl.feed Hdl.d0 (p.take f)).1 (.slice Ac df.inn.length cc) (.slice none 0 0) [] [] := by
                rw [← HDF.out]
                exact HDC.out.below HBL.out
              have hp6 := hI.out.clone hdcq (HB5.out.trans (HBL.out.mono hs5)) hk6 (by have := HBW.out.size; omega)
              have HP6 := Lib.hid hp6
              have hb6 : Below w.heap.size w w6 := HBEL.out.trans (hp6.kept.below HBEL.out.size (fun i hi e => by omega))
              have hdc6 := hp6.dc
              rw [← HDF.out] at hdc6
              have hqr : wr.heap.size ≤ q := hq
              have hfd2 := dfeed_any (xs := []) (told := []) w6 (A.map (·.add f)) (t - f) (c - f) ((p.take t).drop f) (hdc6.recut (Nat.le_refl _)) (HRS.out.below hb6) (fun h0 b off e h => by
                  have h1 := HSLB.out b off e h0
                  have h2 := HBW.out.size
                  rcases h with h | h | h
                  · omega
                  · have := (hdc6.hi.lt b h).1
                    omega
                  · simp [Value.ownBlock] at h) HOKF.out 3000 HLEF.out (by omega) (by simp <;> omega)
              rw [List.nil_append, ← HLS3.out, ← HD2.out] at hfd2
              have HFD2 := Lib.hid hfd2
              clear hk6 hdcq hp6 hb6 hdc6 hfd2
              go_wp2_with fail
              refine HFD2.out.mono ?_
              rintro e w7 ⟨I7, A7, c7, xs7, rfl, hd7, hs7, ht7, hk7, hi7, _⟩
              have hone := ht7.one
              obtain ⟨n3, hn3⟩ : ∃ n3, n3 = ls3.length := ⟨_, rfl⟩
              rw [← hn3] at hs7 ⊢
              have hown7 : w7.ownsRow w4.heap.size 25 1 (.slice Ap np cp) np xs := row_keep HP6.out.own fun k e => hk7.block k (World.ownsRow.lt HP6.out.own k e).2 (HP6.out.row e)
              have hlen7 : np + n3 ≤ 3000 := by
                have h1 := HTT.out
                rw [HFE.out] at h1
                have h2 := List.length_take_le t p
                have h3 := HP6.out.len
                simp only [List.length_append] at h1
                omega
              have hsz7 : w4.heap.size ≤ w7.heap.size := Nat.le_trans HP6.out.kept.size hk7.size
              have HSRC := Lib.hid (hs7.src hone)
              have HOW7 := Lib.hid hown7
              have HFIN : Hid (∀ (A' : Option Addr) (c' : Nat) (w8 : World), w8.ownsRow w4.heap.size 25 1 (.slice A' (np + n3) c') (np + n3) (xs ++ xs7) → w7.grownBy w8 (Value.ownBlock (.slice Ap np cp)) → PI w w4 w8 gb0 p t q I7 A' (np + n3) c' (xs ++ xs7)) := fun A' c' w8 h1 h2 => HP6.out.feed hd7 hn3.symm ht7 hk7 hi7 HFE.out h1 h2
              clear hd7 hs7 ht7 hk7 hi7 hone hown7 hn3
              go_wp2_with ((with_reducible show wpList _ _ _ (⟨some 82, _, _, _, _, _⟩ :: _) _ _); refine wpList_app _ rfl elemL (.tmp 75) (.tmp 81) rfl rfl HOW7.out rfl HSRC.out (np + n3) rfl (by omega) hsz7 ?_; intro A8 c8 w8 hown8 hg8 _; have HP8 := Lib.hid (HFIN.out A8 c8 w8 hown8 hg8); clear hown8 hg8)
              go_roundw
              case rel => exact ⟨k + 1, t, q, I7, A8, np + n3, c8, _, by omega, by omega, by go_num, htm, rfl, rfl, rfl, hlen7, HP8⟩
              case measure => simp [intOf] <;> omega
        · skip
          by_cases hcf : c = f
          · obtain rfl : f = m := by omega
            obtain rfl : f = c := hcf.symm
            have hft : f ≤ f := Nat.le_refl _
            have htm : f ≤ f := Nat.le_refl _
            have hokf := Hdl.ok_feed (p.take f) Hdl.ok0
            have hlef := Hdl.le_feed (p.take f) Hdl.le0
            have hlf : (p.take f).length ≤ f := List.length_take_le _ _
            have hdis : ∀ i, DcS gb I (.slice none 0 0) i → i < wr.heap.size := by
              rintro i (h1 | h1 | h1)
              · rw [h1]; exact hI.out.dc.lt
              · exact (hI.out.dc.hi.lt i h1).2
              · simp [Value.ownBlock] at h1
            have hpt : p.take f = p.take f ++ (p.take f).drop f := by
              have h1 : (p.take f).take f = p.take f := by rw [List.take_take, Nat.min_eq_left hft]
              have h2 := List.take_append_drop f (p.take f)
              rw [h1] at h2
              exact h2.symm
            have hfe := Hdl.feed_append (p.take f) ((p.take f).drop f) Hdl.d0
            rw [← hpt] at hfe
            have hrs : Rd w A 0 0 ((p.take f).drop f) := by
              have h1 : (p.take f).drop f = [] := List.eq_nil_of_length_eq_zero (by rw [List.length_drop, List.length_take]; omega)
              rw [h1]
              exact Rd.nil _ _ _
            have hslb : ∀ b off, A = some ⟨b, off, none⟩ → 0 < 0 → b < w.heap.size := fun b off e h0 => by
              obtain ⟨b', off', e', hb', _⟩ := hrs.at_ h0
              rw [e] at e'
              injection e' with e'
              injection e' with e'
              omega
            obtain ⟨df, hdf⟩ : ∃ df, df = (Hdl.feed Hdl.d0 (p.take f)).1 := ⟨_, rfl⟩
            have hdcI := hI.out.dc
            rw [← hdf] at hokf hlef hfe hdcI
            obtain ⟨ls3, hls3⟩ : ∃ ls3, ls3 = (Hdl.feed df ((p.take f).drop f)).2 := ⟨_, rfl⟩
            obtain ⟨d2, hd2⟩ : ∃ d2, d2 = (Hdl.feed df ((p.take f).drop f)).1 := ⟨_, rfl⟩
            have htt := Hdl.told_feed (p.take f) Hdl.d0
            rw [← hls3, ← hd2] at hfe
            have hclo := dclone_any wr hdcI hokf.1
            have HOKF := Lib.hid hokf
            have HLEF := Lib.hid (hlef.mono (by omega : 0 + (p.take f).length ≤ 3000))
            have HDIS := Lib.hid hdis
            have HFE := Lib.hid hfe
            have HTT := Lib.hid htt
            have HRS := Lib.hid hrs
            have HSLB := Lib.hid hslb
            have HDF := Lib.hid hdf
            have HLS3 := Lib.hid hls3
            have HD2 := Lib.hid hd2
            have HDI := Lib.hid hdcI
            have HCLO := Lib.hid hclo
            clear hokf hlef hdis hpt hfe htt hrs hslb hdf hls3 hd2 hdcI hclo hlf
            go_wp2_with fail
            refine HCLO.out.mono ?_
            rintro e w5 ⟨q, Ac, cc, rfl, hq, hdc, hb5⟩
            have hs5 := hb5.size
            have hbl : Below w5.heap.size w5 (w5.alloc (.cells (bs [0x7e, 1, 2, 3, 0x7e]).toArray 5)) := (Below.refl _ _).alloc (Nat.le_refl _) _
            have hlow := HDI.out.low
            have hfd1 := dfeed_any (xs := []) (told := []) (w5.alloc (.cells (bs [0x7e, 1, 2, 3, 0x7e]).toArray 5)) (some ⟨w5.heap.size, 0, none⟩) 5 5 [0x7e, 1, 2, 3, 0x7e] ((HDI.out.below (hb5.trans (hbl.mono hs5))).recut (Nat.zero_le _)) (rd_lit w5 [0x7e, 1, 2, 3, 0x7e] 5 rfl (by omega) _ _) (fun h0 b off e h => by
                have h1 := HDIS.out b h
                injection e with e
                injection e with e
                omega) HOKF.out 3000 HLEF.out (by omega) (by simp)
            have HDC := Lib.hid hdc
            have HB5 := Lib.hid hb5
            have HBL := Lib.hid hbl
            have HFD1 := Lib.hid hfd1
            clear hdc hb5 hbl hfd1
            go_wp2_with fail
            refine HFD1.out.mono ?_
            rintro e w6 ⟨I6, A6, c6, xs6, rfl, _, _, _, hk6, _, _⟩
            have hdcq : Dc (w5.alloc (.cells (bs [0x7e, 1, 2, 3, 0x7e]).toArray 5)) wr.heap.size 0 q (Hdl.feed Hdl.d0 (p.take f)).1 (.slice Ac df.inn.length cc) (.slice none 0 0) [] [] := by
              rw [← HDF.out]
              exact HDC.out.below HBL.out
            have hp6 := hI.out.clone hdcq (HB5.out.trans (HBL.out.mono hs5)) hk6 (by have := HBW.out.size; omega)
            have HP6 := Lib.hid hp6
            have hb6 : Below w.heap.size w w6 := HBEL.out.trans (hp6.kept.below HBEL.out.size (fun i hi e => by omega))
            have hdc6 := hp6.dc
            rw [← HDF.out] at hdc6
            have hqr : wr.heap.size ≤ q := hq
            have hfd2 := dfeed_any (xs := []) (told := []) w6 A 0 0 ((p.take f).drop f) (hdc6.recut (Nat.le_refl _)) (HRS.out.below hb6) (fun h0 b off e h => by
                have h1 := HSLB.out b off e h0
                have h2 := HBW.out.size
                rcases h with h | h | h
                · omega
                · have := (hdc6.hi.lt b h).1
                  omega
                · simp [Value.ownBlock] at h) HOKF.out 3000 HLEF.out (by omega) (by simp <;> omega)
            rw [List.nil_append, ← HLS3.out, ← HD2.out] at hfd2
            have HFD2 := Lib.hid hfd2
            clear hk6 hdcq hp6 hb6 hdc6 hfd2
            go_wp2_with fail
            refine HFD2.out.mono ?_
            rintro e w7 ⟨I7, A7, c7, xs7, rfl, hd7, hs7, ht7, hk7, hi7, _⟩
            have hone := ht7.one
            obtain ⟨n3, hn3⟩ : ∃ n3, n3 = ls3.length := ⟨_, rfl⟩
            rw [← hn3] at hs7 ⊢
            have hown7 : w7.ownsRow w4.heap.size 25 1 (.slice Ap np cp) np xs := row_keep HP6.out.own fun k e => hk7.block k (World.ownsRow.lt HP6.out.own k e).2 (HP6.out.row e)
            have hlen7 : np + n3 ≤ 3000 := by
              have h1 := HTT.out
              rw [HFE.out] at h1
              have h2 := List.length_take_le f p
              have h3 := HP6.out.len
              simp only [List.length_append] at h1
              omega
            have hsz7 : w4.heap.size ≤ w7.heap.size := Nat.le_trans HP6.out.kept.size hk7.size
            have HSRC := Lib.hid (hs7.src hone)
            have HOW7 := Lib.hid hown7
            have HFIN : Hid (∀ (A' : Option Addr) (c' : Nat) (w8 : World), w8.ownsRow w4.heap.size 25 1 (.slice A' (np + n3) c') (np + n3) (xs ++ xs7) → w7.grownBy w8 (Value.ownBlock (.slice Ap np cp)) → PI w w4 w8 gb0 p f q I7 A' (np + n3) c' (xs ++ xs7)) := fun A' c' w8 h1 h2 => HP6.out.feed hd7 hn3.symm ht7 hk7 hi7 HFE.out h1 h2
            clear hd7 hs7 ht7 hk7 hi7 hone hown7 hn3
            go_wp2_with ((with_reducible show wpList _ _ _ (⟨some 82, _, _, _, _, _⟩ :: _) _ _); refine wpList_app _ rfl elemL (.tmp 75) (.tmp 81) rfl rfl HOW7.out rfl HSRC.out (np + n3) rfl (by omega) hsz7 ?_; intro A8 c8 w8 hown8 hg8 _; have HP8 := Lib.hid (HFIN.out A8 c8 w8 hown8 hg8); clear hown8 hg8)
            go_roundw
            case rel => exact ⟨k + 1, f, q, I7, A8, np + n3, c8, _, by omega, by omega, by go_num, htm, rfl, rfl, rfl, hlen7, HP8⟩
            case measure => simp [intOf] <;> omega
          · obtain ⟨t, rfl⟩ : ∃ t, t = m := ⟨_, rfl⟩
            have hft : f ≤ t := hf
            have htm : t ≤ t := Nat.le_refl _
            have hokf := Hdl.ok_feed (p.take f) Hdl.ok0
            have hlef := Hdl.le_feed (p.take f) Hdl.le0
            have hlf : (p.take f).length ≤ f := List.length_take_le _ _
            have hdis : ∀ i, DcS gb I (.slice none 0 0) i → i < wr.heap.size := by
              rintro i (h1 | h1 | h1)
              · rw [h1]; exact hI.out.dc.lt
              · exact (hI.out.dc.hi.lt i h1).2
              · simp [Value.ownBlock] at h1
            have hpt : p.take t = p.take f ++ (p.take t).drop f := by
              have h1 : (p.take t).take f = p.take f := by rw [List.take_take, Nat.min_eq_left hft]
              have h2 := List.take_append_drop f (p.take t)
              rw [h1] at h2
              exact h2.symm
            have hfe := Hdl.feed_append (p.take f) ((p.take t).drop f) Hdl.d0
            rw [← hpt] at hfe
            have hrs := (HR3.out.take (k := t) htm).drop (k := f) hft
            rw [if_neg (by omega)] at hrs
            have hslb : ∀ b off, (A.map (·.add f)) = some ⟨b, off, none⟩ → 0 < (t - f) → b < w.heap.size := fun b off e h0 => by
              obtain ⟨b', off', e', hb', _⟩ := hrs.at_ h0
              rw [e] at e'
              injection e' with e'
              injection e' with e'
              omega
            obtain ⟨df, hdf⟩ : ∃ df, df = (Hdl.feed Hdl.d0 (p.take f)).1 := ⟨_, rfl⟩
            have hdcI := hI.out.dc
            rw [← hdf] at hokf hlef hfe hdcI
            obtain ⟨ls3, hls3⟩ : ∃ ls3, ls3 = (Hdl.feed df ((p.take t).drop f)).2 := ⟨_, rfl⟩
            obtain ⟨d2, hd2⟩ : ∃ d2, d2 = (Hdl.feed df ((p.take t).drop f)).1 := ⟨_, rfl⟩
            have htt := Hdl.told_feed (p.take t) Hdl.d0
            rw [← hls3, ← hd2] at hfe
            have hclo := dclone_any wr hdcI hokf.1
            have HOKF := Lib.hid hokf
            have HLEF := Lib.hid (hlef.mono (by omega : 0 + (p.take f).length ≤ 3000))
            have HDIS := Lib.hid hdis
            have HFE := Lib.hid hfe
            have HTT := Lib.hid htt
            have HRS := Lib.hid hrs
            have HSLB := Lib.hid hslb
            have HDF := Lib.hid hdf
            have HLS3 := Lib.hid hls3
            have HD2 := Lib.hid hd2
            have HDI := Lib.hid hdcI
            have HCLO := Lib.hid hclo
            clear hokf hlef hdis hpt hfe htt hrs hslb hdf hls3 hd2 hdcI hclo hlf
            go_wp2_with fail
            refine HCLO.out.mono ?_
            rintro e w5 ⟨q, Ac, cc, rfl, hq, hdc, hb5⟩
            have hs5 := hb5.size
            have hbl : Below w5.heap.size w5 (w5.alloc (.cells (bs [0x7e, 1, 2, 3, 0x7e]).toArray 5)) := (Below.refl _ _).alloc (Nat.le_refl _) _
            have hlow := HDI.out.low
            have hfd1 := dfeed_any (xs := []) (told := []) (w5.alloc (.cells (bs [0x7e, 1, 2, 3, 0x7e]).toArray 5)) (some ⟨w5.heap.size, 0, none⟩) 5 5 [0x7e, 1, 2, 3, 0x7e] ((HDI.out.below (hb5.trans (hbl.mono hs5))).recut (Nat.zero_le _)) (rd_lit w5 [0x7e, 1, 2, 3, 0x7e] 5 rfl (by omega) _ _) (fun h0 b off e h => by
                have h1 := HDIS.out b h
                injection e with e
                injection e with e
                omega) HOKF.out 3000 HLEF.out (by omega) (by simp)
            have HDC := Lib.hid hdc
            have HB5 := Lib.hid hb5
            have HBL := Lib.hid hbl
            have HFD1 := Lib.hid hfd1
            clear hdc hb5 hbl hfd1
            go_wp2_with fail
            refine HFD1.out.mono ?_
            rintro e w6 ⟨I6, A6, c6, xs6, rfl, _, _, _, hk6, _, _⟩
            have hdcq : Dc (w5.alloc (.cells (bs [0x7e, 1, 2, 3, 0x7e]).toArray 5)) wr.heap.size 0 q (Hdl.feed Hdl.d0 (p.take f)).1 (.slice Ac df.inn.length cc) (.slice none 0 0) [] [] := by
              rw [← HDF.out]
              exact HDC.out.below HBL.out
            have hp6 := hI.out.clone hdcq (HB5.out.trans (HBL.out.mono hs5)) hk6 (by have := HBW.out.size; omega)
            have HP6 := Lib.hid hp6
            have hb6 : Below w.heap.size w w6 := HBEL.out.trans (hp6.kept.below HBEL.out.size (fun i hi e => by omega))
            have hdc6 := hp6.dc
            rw [← HDF.out] at hdc6
            have hqr : wr.heap.size ≤ q := hq
            have hfd2 := dfeed_any (xs := []) (told := []) w6 (A.map (·.add f)) (t - f) (c - f) ((p.take t).drop f) (hdc6.recut (Nat.le_refl _)) (HRS.out.below hb6) (fun h0 b off e h => by
                have h1 := HSLB.out b off e h0
                have h2 := HBW.out.size
                rcases h with h | h | h
                · omega
                · have := (hdc6.hi.lt b h).1
                  omega
                · simp [Value.ownBlock] at h) HOKF.out 3000 HLEF.out (by omega) (by simp <;> omega)
            rw [List.nil_append, ← HLS3.out, ← HD2.out] at hfd2
            have HFD2 := Lib.hid hfd2
            clear hk6 hdcq hp6 hb6 hdc6 hfd2
            go_wp2_with fail
            refine HFD2.out.mono ?_
            rintro e w7 ⟨I7, A7, c7, xs7, rfl, hd7, hs7, ht7, hk7, hi7, _⟩
            have hone := ht7.one
            obtain ⟨n3, hn3⟩ : ∃ n3, n3 = ls3.length := ⟨_, rfl⟩
            rw [← hn3] at hs7 ⊢
            have hown7 : w7.ownsRow w4.heap.size 25 1 (.slice Ap np cp) np xs := row_keep HP6.out.own fun k e => hk7.block k (World.ownsRow.lt HP6.out.own k e).2 (HP6.out.row e)
            have hlen7 : np + n3 ≤ 3000 := by
              have h1 := HTT.out
              rw [HFE.out] at h1
              have h2 := List.length_take_le t p
              have h3 := HP6.out.len
              simp only [List.length_append] at h1
              omega
            have hsz7 : w4.heap.size ≤ w7.heap.size := Nat.le_trans HP6.out.kept.size hk7.size
            have HSRC := Lib.hid (hs7.src hone)
            have HOW7 := Lib.hid hown7
            have HFIN : Hid (∀ (A' : Option Addr) (c' : Nat) (w8 : World), w8.ownsRow w4.heap.size 25 1 (.slice A' (np + n3) c') (np + n3) (xs ++ xs7) → w7.grownBy w8 (Value.ownBlock (.slice Ap np cp)) → PI w w4 w8 gb0 p t q I7 A' (np + n3) c' (xs ++ xs7)) := fun A' c' w8 h1 h2 => HP6.out.feed hd7 hn3.symm ht7 hk7 hi7 HFE.out h1 h2
            clear hd7 hs7 ht7 hk7 hi7 hone hown7 hn3
            go_wp2_with ((with_reducible show wpList _ _ _ (⟨some 82, _, _, _, _, _⟩ :: _) _ _); refine wpList_app _ rfl elemL (.tmp 75) (.tmp 81) rfl rfl HOW7.out rfl HSRC.out (np + n3) rfl (by omega) hsz7 ?_; intro A8 c8 w8 hown8 hg8 _; have HP8 := Lib.hid (HFIN.out A8 c8 w8 hown8 hg8); clear hown8 hg8)
            go_roundw
            case rel => exact ⟨k + 1, t, q, I7, A8, np + n3, c8, _, by omega, by omega, by go_num, htm, rfl, rfl, rfl, hlen7, HP8⟩
            case measure => simp [intOf] <;> omega
      · by_cases hz1 : k < n1
        · have hz2 : ¬ ((k : Int) < 39) := by omega
          by_cases hcf : c = f
          · obtain rfl : f = m := by omega
            obtain rfl : f = c := hcf.symm
            have hft : f ≤ f := Nat.le_refl _
            have htm : f ≤ f := Nat.le_refl _
            have hokf := Hdl.ok_feed (p.take f) Hdl.ok0
            have hlef := Hdl.le_feed (p.take f) Hdl.le0
            have hlf : (p.take f).length ≤ f := List.length_take_le _ _
            have hdis : ∀ i, DcS gb I (.slice none 0 0) i → i < wr.heap.size := by
              rintro i (h1 | h1 | h1)
              · rw [h1]; exact hI.out.dc.lt
              · exact (hI.out.dc.hi.lt i h1).2
              · simp [Value.ownBlock] at h1
            have hpt : p.take f = p.take f ++ (p.take f).drop f := by
              have h1 : (p.take f).take f = p.take f := by rw [List.take_take, Nat.min_eq_left hft]
              have h2 := List.take_append_drop f (p.take f)
              rw [h1] at h2
              exact h2.symm
            have hfe := Hdl.feed_append (p.take f) ((p.take f).drop f) Hdl.d0
            rw [← hpt] at hfe
            have hrs : Rd w A 0 0 ((p.take f).drop f) := by
              have h1 : (p.take f).drop f = [] := List.eq_nil_of_length_eq_zero (by rw [List.length_drop, List.length_take]; omega)
              rw [h1]
              exact Rd.nil _ _ _
            have hslb : ∀ b off, A = some ⟨b, off, none⟩ → 0 < 0 → b < w.heap.size := fun b off e h0 => by
              obtain ⟨b', off', e', hb', _⟩ := hrs.at_ h0
              rw [e] at e'
              injection e' with e'
              injection e' with e'
              omega
            obtain ⟨df, hdf⟩ : ∃ df, df = (Hdl.feed Hdl.d0 (p.take f)).1 := ⟨_, rfl⟩
            have hdcI := hI.out.dc
            rw [← hdf] at hokf hlef hfe hdcI
            obtain ⟨ls3, hls3⟩ : ∃ ls3, ls3 = (Hdl.feed df ((p.take f).drop f)).2 := ⟨_, rfl⟩
            obtain ⟨d2, hd2⟩ : ∃ d2, d2 = (Hdl.feed df ((p.take f).drop f)).1 := ⟨_, rfl⟩
            have htt := Hdl.told_feed (p.take f) Hdl.d0
            rw [← hls3, ← hd2] at hfe
            have hclo := dclone_any wr hdcI hokf.1
            have HOKF := Lib.hid hokf
            have HLEF := Lib.hid (hlef.mono (by omega : 0 + (p.take f).length ≤ 3000))
            have HDIS := Lib.hid hdis
            have HFE := Lib.hid hfe
            have HTT := Lib.hid htt
            have HRS := Lib.hid hrs
            have HSLB := Lib.hid hslb
            have HDF := Lib.hid hdf
            have HLS3 := Lib.hid hls3
            have HD2 := Lib.hid hd2
            have HDI := Lib.hid hdcI
            have HCLO := Lib.hid hclo
            clear hokf hlef hdis hpt hfe htt hrs hslb hdf hls3 hd2 hdcI hclo hlf
            go_wp2_with fail
            refine HCLO.out.mono ?_
            rintro e w5 ⟨q, Ac, cc, rfl, hq, hdc, hb5⟩
            have hs5 := hb5.size
            have hbl : Below w5.heap.size w5 (w5.alloc (.cells (bs [0x7e, 1, 2, 3, 0x7e]).toArray 5)) := (Below.refl _ _).alloc (Nat.le_refl _) _
            have hlow := HDI.out.low
            have hfd1 := dfeed_any (xs := []) (told := []) (w5.alloc (.cells (bs [0x7e, 1, 2, 3, 0x7e]).toArray 5)) (some ⟨w5.heap.size, 0, none⟩) 5 5 [0x7e, 1, 2, 3, 0x7e] ((HDI.out.below (hb5.trans (hbl.mono hs5))).recut (Nat.zero_le _)) (rd_lit w5 [0x7e, 1, 2, 3, 0x7e] 5 rfl (by omega) _ _) (fun h0 b off e h => by
                have h1 := HDIS.out b h
                injection e with e
                injection e with e
                omega) HOKF.out 3000 HLEF.out (by omega) (by simp)
            have HDC := Lib.hid hdc
            have HB5 := Lib.hid hb5
            have HBL := Lib.hid hbl
            have HFD1 := Lib.hid hfd1
            clear hdc hb5 hbl hfd1
            go_wp2_with fail
            refine HFD1.out.mono ?_
            rintro e w6 ⟨I6, A6, c6, xs6, rfl, _, _, _, hk6, _, _⟩
            have hdcq : Dc (w5.alloc (.cells (bs [0x7e, 1, 2, 3, 0x7e]).toArray 5)) wr.heap.size 0 q (Hdl.feed Hdl.d0 (p.take f)).1 (.slice Ac df.inn.length cc) (.slice none 0 0) [] [] := by
              rw [← HDF.out]
              exact HDC.out.below HBL.out
            have hp6 := hI.out.clone hdcq (HB5.out.trans (HBL.out.mono hs5)) hk6 (by have := HBW.out.size; omega)
            have HP6 := Lib.hid hp6
            have hb6 : Below w.heap.size w w6 := HBEL.out.trans (hp6.kept.below HBEL.out.size (fun i hi e => by omega))
            have hdc6 := hp6.dc
            rw [← HDF.out] at hdc6
            have hqr : wr.heap.size ≤ q := hq
            have hfd2 := dfeed_any (xs := []) (told := []) w6 A 0 0 ((p.take f).drop f) (hdc6.recut (Nat.le_refl _)) (HRS.out.below hb6) (fun h0 b off e h => by
                have h1 := HSLB.out b off e h0
                have h2 := HBW.out.size
                rcases h with h | h | h
                · omega
                · have := (hdc6.hi.lt b h).1
                  omega
                · simp [Value.ownBlock] at h) HOKF.out 3000 HLEF.out (by omega) (by simp <;> omega)
            rw [List.nil_append, ← HLS3.out, ← HD2.out] at hfd2
            have HFD2 := Lib.hid hfd2
            clear hk6 hdcq hp6 hb6 hdc6 hfd2
            go_wp2_with fail
            refine HFD2.out.mono ?_
            rintro e w7 ⟨I7, A7, c7, xs7, rfl, hd7, hs7, ht7, hk7, hi7, _⟩
            have hone := ht7.one
            obtain ⟨n3, hn3⟩ : ∃ n3, n3 = ls3.length := ⟨_, rfl⟩
            rw [← hn3] at hs7 ⊢
            have hown7 : w7.ownsRow w4.heap.size 25 1 (.slice Ap np cp) np xs := row_keep HP6.out.own fun k e => hk7.block k (World.ownsRow.lt HP6.out.own k e).2 (HP6.out.row e)
            have hlen7 : np + n3 ≤ 3000 := by
              have h1 := HTT.out
              rw [HFE.out] at h1
              have h2 := List.length_take_le f p
              have h3 := HP6.out.len
              simp only [List.length_append] at h1
              omega
            have hsz7 : w4.heap.size ≤ w7.heap.size := Nat.le_trans HP6.out.kept.size hk7.size
            have HSRC := Lib.hid (hs7.src hone)
            have HOW7 := Lib.hid hown7
            have HFIN : Hid (∀ (A' : Option Addr) (c' : Nat) (w8 : World), w8.ownsRow w4.heap.size 25 1 (.slice A' (np + n3) c') (np + n3) (xs ++ xs7) → w7.grownBy w8 (Value.ownBlock (.slice Ap np cp)) → PI w w4 w8 gb0 p f q I7 A' (np + n3) c' (xs ++ xs7)) := fun A' c' w8 h1 h2 => HP6.out.feed hd7 hn3.symm ht7 hk7 hi7 HFE.out h1 h2
            clear hd7 hs7 ht7 hk7 hi7 hone hown7 hn3
            go_wp2_with ((with_reducible show wpList _ _ _ (⟨some 82, _, _, _, _, _⟩ :: _) _ _); refine wpList_app _ rfl elemL (.tmp 75) (.tmp 81) rfl rfl HOW7.out rfl HSRC.out (np + n3) rfl (by omega) hsz7 ?_; intro A8 c8 w8 hown8 hg8 _; have HP8 := Lib.hid (HFIN.out A8 c8 w8 hown8 hg8); clear hown8 hg8)
            go_roundw
            case rel => exact ⟨k + 1, f, q, I7, A8, np + n3, c8, _, by omega, by omega, by go_num, htm, rfl, rfl, rfl, hlen7, HP8⟩
            case measure => simp [intOf] <;> omega
          · obtain ⟨t, rfl⟩ : ∃ t, t = m := ⟨_, rfl⟩
            have hft : f ≤ t := hf
            have htm : t ≤ t := Nat.le_refl _
            have hokf := Hdl.ok_feed (p.take f) Hdl.ok0
            have hlef := Hdl.le_feed (p.take f) Hdl.le0
            have hlf : (p.take f).length ≤ f := List.length_take_le _ _
            have hdis : ∀ i, DcS gb I (.slice none 0 0) i → i < wr.heap.size := by
              rintro i (h1 | h1 | h1)
              · rw [h1]; exact hI.out.dc.lt
              · exact (hI.out.dc.hi.lt i h1).2
              · simp [Value.ownBlock] at h1
            have hpt : p.take t = p.take f ++ (p.take t).drop f := by
              have h1 : (p.take t).take f = p.take f := by rw [List.take_take, Nat.min_eq_left hft]
              have h2 := List.take_append_drop f (p.take t)
              rw [h1] at h2
              exact h2.symm
            have hfe := Hdl.feed_append (p.take f) ((p.take t).drop f) Hdl.d0
            rw [← hpt] at hfe
            have hrs := (HR3.out.take (k := t) htm).drop (k := f) hft
            rw [if_neg (by omega)] at hrs
            have hslb : ∀ b off, (A.map (·.add f)) = some ⟨b, off, none⟩ → 0 < (t - f) → b < w.heap.size := fun b off e h0 => by
              obtain ⟨b', off', e', hb', _⟩ := hrs.at_ h0
              rw [e] at e'
              injection e' with e'
              injection e' with e'
              omega
            obtain ⟨df, hdf⟩ : ∃ df, df = (Hdl.feed Hdl.d0 (p.take f)).1 := ⟨_, rfl⟩
            have hdcI := hI.out.dc
            rw [← hdf] at hokf hlef hfe hdcI
            obtain ⟨ls3, hls3⟩ : ∃ ls3, ls3 = (Hdl.feed df ((p.take t).drop f)).2 := ⟨_, rfl⟩
            obtain ⟨d2, hd2⟩ : ∃ d2, d2 = (Hdl.feed df ((p.take t).drop f)).1 := ⟨_, rfl⟩
            have htt := Hdl.told_feed (p.take t) Hdl.d0
            rw [← hls3, ← hd2] at hfe
            have hclo := dclone_any wr hdcI hokf.1
            have HOKF := Lib.hid hokf
            have HLEF := Lib.hid (hlef.mono (by omega : 0 + (p.take f).length ≤ 3000))
            have HDIS := Lib.hid hdis
            have HFE := Lib.hid hfe
            have HTT := Lib.hid htt
            have HRS := Lib.hid hrs
            have HSLB := Lib.hid hslb
            have HDF := Lib.hid hdf
            have HLS3 := Lib.hid hls3
            have HD2 := Lib.hid hd2
            have HDI := Lib.hid hdcI
            have HCLO := Lib.hid hclo
            clear hokf hlef hdis hpt hfe htt hrs hslb hdf hls3 hd2 hdcI hclo hlf
            go_wp2_with fail
            refine HCLO.out.mono ?_
            rintro e w5 ⟨q, Ac, cc, rfl, hq, hdc, hb5⟩
            have hs5 := hb5.size
            have hbl : Below w5.heap.size w5 (w5.alloc (.cells (bs [0x7e, 1, 2, 3, 0x7e]).toArray 5)) := (Below.refl _ _).alloc (Nat.le_refl _) _
            have hlow := HDI.out.low
            have hfd1 := dfeed_any (xs := []) (told := []) (w5.alloc (.cells (bs [0x7e, 1, 2, 3, 0x7e]).toArray 5)) (some ⟨w5.heap.size, 0, none⟩) 5 5 [0x7e, 1, 2, 3, 0x7e] ((HDI.out.below (hb5.trans (hbl.mono hs5))).recut (Nat.zero_le _)) (rd_lit w5 [0x7e, 1, 2, 3, 0x7e] 5 rfl (by omega) _ _) (fun h0 b off e h => by
                have h1 := HDIS.out b h
                injection e with e
                injection e with e
                omega) HOKF.out 3000 HLEF.out (by omega) (by simp)
            have HDC := Lib.hid hdc
            have HB5 := Lib.hid hb5
            have HBL := Lib.hid hbl
            have HFD1 := Lib.hid hfd1
            clear hdc hb5 hbl hfd1
            go_wp2_with fail
            refine HFD1.out.mono ?_
            rintro e w6 ⟨I6, A6, c6, xs6, rfl, _, _, _, hk6, _, _⟩
            have hdcq : Dc (w5.alloc (.cells (bs [0x7e, 1, 2, 3, 0x7e]).toArray 5)) wr.heap.size 0 q (Hdl.feed Hdl.d0 (p.take f)).1 (.slice Ac df.inn.length cc) (.slice none 0 0) [] [] := by
              rw [← HDF.out]
              exact HDC.out.below HBL.out
            have hp6 := hI.out.clone hdcq (HB5.out.trans (HBL.out.mono hs5)) hk6 (by have := HBW.out.size; omega)
            have HP6 := Lib.hid hp6
            have hb6 : Below w.heap.size w w6 := HBEL.out.trans (hp6.kept.below HBEL.out.size (fun i hi e => by omega))
            have hdc6 := hp6.dc
            rw [← HDF.out] at hdc6
            have hqr : wr.heap.size ≤ q := hq
            have hfd2 := dfeed_any (xs := []) (told := []) w6 (A.map (·.add f)) (t - f) (c - f) ((p.take t).drop f) (hdc6.recut (Nat.le_refl _)) (HRS.out.below hb6) (fun h0 b off e h => by
                have h1 := HSLB.out b off e h0
                have h2 := HBW.out.size
                rcases h with h | h | h
                · omega
                · have := (hdc6.hi.lt b h).1
                  omega
                · simp [Value.ownBlock] at h) HOKF.out 3000 HLEF.out (by omega) (by simp <;> omega)
            rw [List.nil_append, ← HLS3.out, ← HD2.out] at hfd2
            have HFD2 := Lib.hid hfd2
            clear hk6 hdcq hp6 hb6 hdc6 hfd2
            go_wp2_with fail
            refine HFD2.out.mono ?_
            rintro e w7 ⟨I7, A7, c7, xs7, rfl, hd7, hs7, ht7, hk7, hi7, _⟩
            have hone := ht7.one
            obtain ⟨n3, hn3⟩ : ∃ n3, n3 = ls3.length := ⟨_, rfl⟩
            rw [← hn3] at hs7 ⊢
            have hown7 : w7.ownsRow w4.heap.size 25 1 (.slice Ap np cp) np xs := row_keep HP6.out.own fun k e => hk7.block k (World.ownsRow.lt HP6.out.own k e).2 (HP6.out.row e)
            have hlen7 : np + n3 ≤ 3000 := by
              have h1 := HTT.out
              rw [HFE.out] at h1
              have h2 := List.length_take_le t p
              have h3 := HP6.out.len
              simp only [List.length_append] at h1
              omega
            have hsz7 : w4.heap.size ≤ w7.heap.size := Nat.le_trans HP6.out.kept.size hk7.size
            have HSRC := Lib.hid (hs7.src hone)
            have HOW7 := Lib.hid hown7
            have HFIN : Hid (∀ (A' : Option Addr) (c' : Nat) (w8 : World), w8.ownsRow w4.heap.size 25 1 (.slice A' (np + n3) c') (np + n3) (xs ++ xs7) → w7.grownBy w8 (Value.ownBlock (.slice Ap np cp)) → PI w w4 w8 gb0 p t q I7 A' (np + n3) c' (xs ++ xs7)) := fun A' c' w8 h1 h2 => HP6.out.feed hd7 hn3.symm ht7 hk7 hi7 HFE.out h1 h2
            clear hd7 hs7 ht7 hk7 hi7 hone hown7 hn3
            go_wp2_with ((with_reducible show wpList _ _ _ (⟨some 82, _, _, _, _, _⟩ :: _) _ _); refine wpList_app _ rfl elemL (.tmp 75) (.tmp 81) rfl rfl HOW7.out rfl HSRC.out (np + n3) rfl (by omega) hsz7 ?_; intro A8 c8 w8 hown8 hg8 _; have HP8 := Lib.hid (HFIN.out A8 c8 w8 hown8 hg8); clear hown8 hg8)
            go_roundw
            case rel => exact ⟨k + 1, t, q, I7, A8, np + n3, c8, _, by omega, by omega, by go_num, htm, rfl, rfl, rfl, hlen7, HP8⟩
            case measure => simp [intOf] <;> omega
        · obtain rfl : k = n1 := by omega
          by_cases hcf : c = f
          · obtain rfl : f = m := by omega
            obtain rfl : f = c := hcf.symm
            have hft : f ≤ f := Nat.le_refl _
            have htm : f ≤ f := Nat.le_refl _
            have hokf := Hdl.ok_feed (p.take f) Hdl.ok0
            have hlef := Hdl.le_feed (p.take f) Hdl.le0
            have hlf : (p.take f).length ≤ f := List.length_take_le _ _
            have hdis : ∀ i, DcS gb I (.slice none 0 0) i → i < wr.heap.size := by
              rintro i (h1 | h1 | h1)
              · rw [h1]; exact hI.out.dc.lt
              · exact (hI.out.dc.hi.lt i h1).2
              · simp [Value.ownBlock] at h1
            have hpt : p.take f = p.take f ++ (p.take f).drop f := by
              have h1 : (p.take f).take f = p.take f := by rw [List.take_take, Nat.min_eq_left hft]
              have h2 := List.take_append_drop f (p.take f)
              rw [h1] at h2
              exact h2.symm
            have hfe := Hdl.feed_append (p.take f) ((p.take f).drop f) Hdl.d0
            rw [← hpt] at hfe
            have hrs : Rd w A 0 0 ((p.take f).drop f) := by
              have h1 : (p.take f).drop f = [] := List.eq_nil_of_length_eq_zero (by rw [List.length_drop, List.length_take]; omega)
              rw [h1]
              exact Rd.nil _ _ _
            have hslb : ∀ b off, A = some ⟨b, off, none⟩ → 0 < 0 → b < w.heap.size := fun b off e h0 => by
              obtain ⟨b', off', e', hb', _⟩ := hrs.at_ h0
              rw [e] at e'
              injection e' with e'
              injection e' with e'
              omega
            obtain ⟨df, hdf⟩ : ∃ df, df = (Hdl.feed Hdl.d0 (p.take f)).1 := ⟨_, rfl⟩
            have hdcI := hI.out.dc
            rw [← hdf] at hokf hlef hfe hdcI
            obtain ⟨ls3, hls3⟩ : ∃ ls3, ls3 = (Hdl.feed df ((p.take f).drop f)).2 := ⟨_, rfl⟩
            obtain ⟨d2, hd2⟩ : ∃ d2, d2 = (Hdl.feed df ((p.take f).drop f)).1 := ⟨_, rfl⟩
            have htt := Hdl.told_feed (p.take f) Hdl.d0
            rw [← hls3, ← hd2] at hfe
            have hclo := dclone_any wr hdcI hokf.1
            have HOKF := Lib.hid hokf
            have HLEF := Lib.hid (hlef.mono (by omega : 0 + (p.take f).length ≤ 3000))
            have HDIS := Lib.hid hdis
            have HFE := Lib.hid hfe
            have HTT := Lib.hid htt
            have HRS := Lib.hid hrs
            have HSLB := Lib.hid hslb
            have HDF := Lib.hid hdf
            have HLS3 := Lib.hid hls3
            have HD2 := Lib.hid hd2
            have HDI := Lib.hid hdcI
            have HCLO := Lib.hid hclo
            clear hokf hlef hdis hpt hfe htt hrs hslb hdf hls3 hd2 hdcI hclo hlf
            go_wp2_with fail
            refine HCLO.out.mono ?_
            rintro e w5 ⟨q, Ac, cc, rfl, hq, hdc, hb5⟩
            have hs5 := hb5.size
            have hbl : Below w5.heap.size w5 (w5.alloc (.cells (bs [0x7e, 1, 2, 3, 0x7e]).toArray 5)) := (Below.refl _ _).alloc (Nat.le_refl _) _
            have hlow := HDI.out.low
            have hfd1 := dfeed_any (xs := []) (told := []) (w5.alloc (.cells (bs [0x7e, 1, 2, 3, 0x7e]).toArray 5)) (some ⟨w5.heap.size, 0, none⟩) 5 5 [0x7e, 1, 2, 3, 0x7e] ((HDI.out.below (hb5.trans (hbl.mono hs5))).recut (Nat.zero_le _)) (rd_lit w5 [0x7e, 1, 2, 3, 0x7e] 5 rfl (by omega) _ _) (fun h0 b off e h => by
                have h1 := HDIS.out b h
                injection e with e
                injection e with e
                omega) HOKF.out 3000 HLEF.out (by omega) (by simp)
            have HDC := Lib.hid hdc
            have HB5 := Lib.hid hb5
            have HBL := Lib.hid hbl
            have HFD1 := Lib.hid hfd1
            clear hdc hb5 hbl hfd1
            go_wp2_with fail
            refine HFD1.out.mono ?_
            rintro e w6 ⟨I6, A6, c6, xs6, rfl, _, _, _, hk6, _, _⟩
            have hdcq : Dc (w5.alloc (.cells (bs [0x7e, 1, 2, 3, 0x7e]).toArray 5)) wr.heap.size 0 q (Hdl.feed Hdl.d0 (p.take f)).1 (.slice Ac df.inn.length cc) (.slice none 0 0) [] [] := by
              rw [← HDF.out]
              exact HDC.out.below HBL.out
            have hp6 := hI.out.clone hdcq (HB5.out.trans (HBL.out.mono hs5)) hk6 (by have := HBW.out.size; omega)
            have HP6 := Lib.hid hp6
            have hb6 : Below w.heap.size w w6 := HBEL.out.trans (hp6.kept.below HBEL.out.size (fun i hi e => by omega))
            have hdc6 := hp6.dc
            rw [← HDF.out] at hdc6
            have hqr : wr.heap.size ≤ q := hq
            have hfd2 := dfeed_any (xs := []) (told := []) w6 A 0 0 ((p.take f).drop f) (hdc6.recut (Nat.le_refl _)) (HRS.out.below hb6) (fun h0 b off e h => by
                have h1 := HSLB.out b off e h0
                have h2 := HBW.out.size
                rcases h with h | h | h
                · omega
                · have := (hdc6.hi.lt b h).1
                  omega
                · simp [Value.ownBlock] at h) HOKF.out 3000 HLEF.out (by omega) (by simp <;> omega)
            rw [List.nil_append, ← HLS3.out, ← HD2.out] at hfd2
            have HFD2 := Lib.hid hfd2
            clear hk6 hdcq hp6 hb6 hdc6 hfd2
            go_wp2_with fail
            refine HFD2.out.mono ?_
            rintro e w7 ⟨I7, A7, c7, xs7, rfl, hd7, hs7, ht7, hk7, hi7, _⟩
            have hone := ht7.one
            obtain ⟨n3, hn3⟩ : ∃ n3, n3 = ls3.length := ⟨_, rfl⟩
            rw [← hn3] at hs7 ⊢
            have hown7 : w7.ownsRow w4.heap.size 25 1 (.slice Ap np cp) np xs := row_keep HP6.out.own fun k e => hk7.block k (World.ownsRow.lt HP6.out.own k e).2 (HP6.out.row e)
            have hlen7 : np + n3 ≤ 3000 := by
              have h1 := HTT.out
              rw [HFE.out] at h1
              have h2 := List.length_take_le f p
              have h3 := HP6.out.len
              simp only [List.length_append] at h1
              omega
            have hsz7 : w4.heap.size ≤ w7.heap.size := Nat.le_trans HP6.out.kept.size hk7.size
            have HSRC := Lib.hid (hs7.src hone)
            have HOW7 := Lib.hid hown7
            have HFIN : Hid (∀ (A' : Option Addr) (c' : Nat) (w8 : World), w8.ownsRow w4.heap.size 25 1 (.slice A' (np + n3) c') (np + n3) (xs ++ xs7) → w7.grownBy w8 (Value.ownBlock (.slice Ap np cp)) → PI w w4 w8 gb0 p f q I7 A' (np + n3) c' (xs ++ xs7)) := fun A' c' w8 h1 h2 => HP6.out.feed hd7 hn3.symm ht7 hk7 hi7 HFE.out h1 h2
            clear hd7 hs7 ht7 hk7 hi7 hone hown7 hn3
            go_wp2_with ((with_reducible show wpList _ _ _ (⟨some 82, _, _, _, _, _⟩ :: _) _ _); refine wpList_app _ rfl elemL (.tmp 75) (.tmp 81) rfl rfl HOW7.out rfl HSRC.out (np + n3) rfl (by omega) hsz7 ?_; intro A8 c8 w8 hown8 hg8 _; have HP8 := Lib.hid (HFIN.out A8 c8 w8 hown8 hg8); clear hown8 hg8)
            go_roundw
            case rel => exact ⟨k + 1, f, q, I7, A8, np + n3, c8, _, by omega, by omega, by go_num, htm, rfl, rfl, rfl, hlen7, HP8⟩
            case measure => simp [intOf] <;> omega
          · obtain ⟨t, rfl⟩ : ∃ t, t = m := ⟨_, rfl⟩
            have hft : f ≤ t := hf
            have htm : t ≤ t := Nat.le_refl _
            have hokf := Hdl.ok_feed (p.take f) Hdl.ok0
            have hlef := Hdl.le_feed (p.take f) Hdl.le0
            have hlf : (p.take f).length ≤ f := List.length_take_le _ _
            have hdis : ∀ i, DcS gb I (.slice none 0 0) i → i < wr.heap.size := by
              rintro i (h1 | h1 | h1)
              · rw [h1]; exact hI.out.dc.lt
              · exact (hI.out.dc.hi.lt i h1).2
              · simp [Value.ownBlock] at h1
            have hpt : p.take t = p.take f ++ (p.take t).drop f := by
              have h1 : (p.take t).take f = p.take f := by rw [List.take_take, Nat.min_eq_left hft]
              have h2 := List.take_append_drop f (p.take t)
              rw [h1] at h2
              exact h2.symm
            have hfe := Hdl.feed_append (p.take f) ((p.take t).drop f) Hdl.d0
            rw [← hpt] at hfe
            have hrs := (HR3.out.take (k := t) htm).drop (k := f) hft
            rw [if_neg (by omega)] at hrs
            have hslb : ∀ b off, (A.map (·.add f)) = some ⟨b, off, none⟩ → 0 < (t - f) → b < w.heap.size := fun b off e h0 => by
              obtain ⟨b', off', e', hb', _⟩ := hrs.at_ h0
              rw [e] at e'
              injection e' with e'
              injection e' with e'
              omega
            obtain ⟨df, hdf⟩ : ∃ df, df = (Hdl.feed Hdl.d0 (p.take f)).1 := ⟨_, rfl⟩
            have hdcI := hI.out.dc
            rw [← hdf] at hokf hlef hfe hdcI
            obtain ⟨ls3, hls3⟩ : ∃ ls3, ls3 = (Hdl.feed df ((p.take t).drop f)).2 := ⟨_, rfl⟩
            obtain ⟨d2, hd2⟩ : ∃ d2, d2 = (Hdl.feed df ((p.take t).drop f)).1 := ⟨_, rfl⟩
            have htt := Hdl.told_feed (p.take t) Hdl.d0
            rw [← hls3, ← hd2] at hfe
            have hclo := dclone_any wr hdcI hokf.1
            have HOKF := Lib.hid hokf
            have HLEF := Lib.hid (hlef.mono (by omega : 0 + (p.take f).length ≤ 3000))
            have HDIS := Lib.hid hdis
            have HFE := Lib.hid hfe
            have HTT := Lib.hid htt
            have HRS := Lib.hid hrs
            have HSLB := Lib.hid hslb
            have HDF := Lib.hid hdf
            have HLS3 := Lib.hid hls3
            have HD2 := Lib.hid hd2
            have HDI := Lib.hid hdcI
            have HCLO := Lib.hid hclo
            clear hokf hlef hdis hpt hfe htt hrs hslb hdf hls3 hd2 hdcI hclo hlf
            go_wp2_with fail
            refine HCLO.out.mono ?_
            rintro e w5 ⟨q, Ac, cc, rfl, hq, hdc, hb5⟩
            have hs5 := hb5.size
            have hbl : Below w5.heap.size w5 (w5.alloc (.cells (bs [0x7e, 1, 2, 3, 0x7e]).toArray 5)) := (Below.refl _ _).alloc (Nat.le_refl _) _
            have hlow := HDI.out.low
            have hfd1 := dfeed_any (xs := []) (told := []) (w5.alloc (.cells (bs [0x7e, 1, 2, 3, 0x7e]).toArray 5)) (some ⟨w5.heap.size, 0, none⟩) 5 5 [0x7e, 1, 2, 3, 0x7e] ((HDI.out.below (hb5.trans (hbl.mono hs5))).recut (Nat.zero_le _)) (rd_lit w5 [0x7e, 1, 2, 3, 0x7e] 5 rfl (by omega) _ _) (fun h0 b off e h => by
                have h1 := HDIS.out b h
                injection e with e
                injection e with e
                omega) HOKF.out 3000 HLEF.out (by omega) (by simp)
            have HDC := Lib.hid hdc
            have HB5 := Lib.hid hb5
            have HBL := Lib.hid hbl
            have HFD1 := Lib.hid hfd1
            clear hdc hb5 hbl hfd1
            go_wp2_with fail
            refine HFD1.out.mono ?_
            rintro e w6 ⟨I6, A6, c6, xs6, rfl, _, _, _, hk6, _, _⟩
            have hdcq : Dc (w5.alloc (.cells (bs [0x7e, 1, 2, 3, 0x7e]).toArray 5)) wr.heap.size 0 q (Hdl.feed Hdl.d0 (p.take f)).1 (.slice Ac df.inn.length cc) (.slice none 0 0) [] [] := by
              rw [← HDF.out]
              exact HDC.out.below HBL.out
            have hp6 := hI.out.clone hdcq (HB5.out.trans (HBL.out.mono hs5)) hk6 (by have := HBW.out.size; omega)
            have HP6 := Lib.hid hp6
            have hb6 : Below w.heap.size w w6 := HBEL.out.trans (hp6.kept.below HBEL.out.size (fun i hi e => by omega))
            have hdc6 := hp6.dc
            rw [← HDF.out] at hdc6
            have hqr : wr.heap.size ≤ q := hq
            have hfd2 := dfeed_any (xs := []) (told := []) w6 (A.map (·.add f)) (t - f) (c - f) ((p.take t).drop f) (hdc6.recut (Nat.le_refl _)) (HRS.out.below hb6) (fun h0 b off e h => by
                have h1 := HSLB.out b off e h0
                have h2 := HBW.out.size
                rcases h with h | h | h
                · omega
                · have := (hdc6.hi.lt b h).1
                  omega
                · simp [Value.ownBlock] at h) HOKF.out 3000 HLEF.out (by omega) (by simp <;> omega)
            rw [List.nil_append, ← HLS3.out, ← HD2.out] at hfd2
            have HFD2 := Lib.hid hfd2
            clear hk6 hdcq hp6 hb6 hdc6 hfd2
            go_wp2_with fail
            refine HFD2.out.mono ?_
            rintro e w7 ⟨I7, A7, c7, xs7, rfl, hd7, hs7, ht7, hk7, hi7, _⟩
            have hone := ht7.one
            obtain ⟨n3, hn3⟩ : ∃ n3, n3 = ls3.length := ⟨_, rfl⟩
            rw [← hn3] at hs7 ⊢
            have hown7 : w7.ownsRow w4.heap.size 25 1 (.slice Ap np cp) np xs := row_keep HP6.out.own fun k e => hk7.block k (World.ownsRow.lt HP6.out.own k e).2 (HP6.out.row e)
            have hlen7 : np + n3 ≤ 3000 := by
              have h1 := HTT.out
              rw [HFE.out] at h1
              have h2 := List.length_take_le t p
              have h3 := HP6.out.len
              simp only [List.length_append] at h1
              omega
            have hsz7 : w4.heap.size ≤ w7.heap.size := Nat.le_trans HP6.out.kept.size hk7.size
            have HSRC := Lib.hid (hs7.src hone)
            have HOW7 := Lib.hid hown7
            have HFIN : Hid (∀ (A' : Option Addr) (c' : Nat) (w8 : World), w8.ownsRow w4.heap.size 25 1 (.slice A' (np + n3) c') (np + n3) (xs ++ xs7) → w7.grownBy w8 (Value.ownBlock (.slice Ap np cp)) → PI w w4 w8 gb0 p t q I7 A' (np + n3) c' (xs ++ xs7)) := fun A' c' w8 h1 h2 => HP6.out.feed hd7 hn3.symm ht7 hk7 hi7 HFE.out h1 h2
            clear hd7 hs7 ht7 hk7 hi7 hone hown7 hn3
            go_wp2_with ((with_reducible show wpList _ _ _ (⟨some 82, _, _, _, _, _⟩ :: _) _ _); refine wpList_app _ rfl elemL (.tmp 75) (.tmp 81) rfl rfl HOW7.out rfl HSRC.out (np + n3) rfl (by omega) hsz7 ?_; intro A8 c8 w8 hown8 hg8 _; have HP8 := Lib.hid (HFIN.out A8 c8 w8 hown8 hg8); clear hown8 hg8)
            go_roundw
            case rel => exact ⟨k + 1, t, q, I7, A8, np + n3, c8, _, by omega, by omega, by go_num, htm, rfl, rfl, rfl, hlen7, HP8⟩
            case measure => simp [intOf] <;> omega
    · have HBW := Lib.hid (HBEL.out.trans (hI.out.kept.below HBEL.out.size (fun i hi e => by omega)))
      by_cases hk1 : k ≤ n1
      · have hk2 : ¬ ((k : Int) < 40) := by omega
        by_cases hcf : c = f
        · obtain rfl : f = m := by omega
          obtain rfl : f = c := hcf.symm
          have hft : f ≤ f := Nat.le_refl _
          have htm : f ≤ f := Nat.le_refl _
          have hokf := Hdl.ok_feed (p.take f) Hdl.ok0
          have hlef := Hdl.le_feed (p.take f) Hdl.le0
          have hlf : (p.take f).length ≤ f := List.length_take_le _ _
          have hdis : ∀ i, DcS gb I (.slice none 0 0) i → i < wr.heap.size := by
            rintro i (h1 | h1 | h1)
            · rw [h1]; exact hI.out.dc.lt
            · exact (hI.out.dc.hi.lt i h1).2
            · simp [Value.ownBlock] at h1
          have hpt : p.take f = p.take f ++ (p.take f).drop f := by
            have h1 : (p.take f).take f = p.take f := by rw [List.take_take, Nat.min_eq_left hft]
            have h2 := List.take_append_drop f (p.take f)
            rw [h1] at h2
            exact h2.symm
          have hfe := Hdl.feed_append (p.take f) ((p.take f).drop f) Hdl.d0
          rw [← hpt] at hfe
          have hrs : Rd w A 0 0 ((p.take f).drop f) := by
            have h1 : (p.take f).drop f = [] := List.eq_nil_of_length_eq_zero (by rw [List.length_drop, List.length_take]; omega)
            rw [h1]
            exact Rd.nil _ _ _
          have hslb : ∀ b off, A = some ⟨b, off, none⟩ → 0 < 0 → b < w.heap.size := fun b off e h0 => by
            obtain ⟨b', off', e', hb', _⟩ := hrs.at_ h0
            rw [e] at e'
            injection e' with e'
            injection e' with e'
            omega
          obtain ⟨df, hdf⟩ : ∃ df, df = (Hdl.feed Hdl.d0 (p.take f)).1 := ⟨_, rfl⟩
          have hdcI := hI.out.dc
          rw [← hdf] at hokf hlef hfe hdcI
          obtain ⟨ls3, hls3⟩ : ∃ ls3, ls3 = (Hdl.feed df ((p.take f).drop f)).2 := ⟨_, rfl⟩
          obtain ⟨d2, hd2⟩ : ∃ d2, d2 = (Hdl.feed df ((p.take f).drop f)).1 := ⟨_, rfl⟩
          have htt := Hdl.told_feed (p.take f) Hdl.d0
          rw [← hls3, ← hd2] at hfe
          have hlow := hdcI.low
          have hbw := HBW.out
          have hfd2 := dfeed_any (xs := []) (told := []) wr A 0 0 ((p.take f).drop f) (hdcI.recut (Nat.le_refl _)) (hrs.below hbw) (fun h0 b off e h => by
              have h1 := hslb b off e h0
              rcases h with h | h | h
              · omega
              · have := (hdcI.hi.lt b h).1
                omega
              · simp [Value.ownBlock] at h) hokf 3000 (hlef.mono (by omega)) (by omega) (by simp <;> omega)
          rw [List.nil_append, ← hls3, ← hd2] at hfd2
          have HFD2 := Lib.hid hfd2
          have HFE := Lib.hid hfe
          have HTT := Lib.hid htt
          have HP6 := hI
          clear hokf hlef hdis hpt hfe htt hrs hslb hdf hls3 hd2 hdcI hlf hfd2 hbw hlow
          go_wp2_with fail
          refine HFD2.out.mono ?_
          rintro e w7 ⟨I7, A7, c7, xs7, rfl, hd7, hs7, ht7, hk7, hi7, _⟩
          have hone := ht7.one
          obtain ⟨n3, hn3⟩ : ∃ n3, n3 = ls3.length := ⟨_, rfl⟩
          rw [← hn3] at hs7 ⊢
          have hown7 : w7.ownsRow w4.heap.size 25 1 (.slice Ap np cp) np xs := row_keep HP6.out.own fun k e => hk7.block k (World.ownsRow.lt HP6.out.own k e).2 (HP6.out.row e)
          have hlen7 : np + n3 ≤ 3000 := by
            have h1 := HTT.out
            rw [HFE.out] at h1
            have h2 := List.length_take_le f p
            have h3 := HP6.out.len
            simp only [List.length_append] at h1
            omega
          have hsz7 : w4.heap.size ≤ w7.heap.size := Nat.le_trans HP6.out.kept.size hk7.size
          have HSRC := Lib.hid (hs7.src hone)
          have HOW7 := Lib.hid hown7
          have HFIN : Hid (∀ (A' : Option Addr) (c' : Nat) (w8 : World), w8.ownsRow w4.heap.size 25 1 (.slice A' (np + n3) c') (np + n3) (xs ++ xs7) → w7.grownBy w8 (Value.ownBlock (.slice Ap np cp)) → PI w w4 w8 gb0 p f gb I7 A' (np + n3) c' (xs ++ xs7)) := fun A' c' w8 h1 h2 => HP6.out.feed hd7 hn3.symm ht7 hk7 hi7 HFE.out h1 h2
          clear hd7 hs7 ht7 hk7 hi7 hone hown7 hn3
          go_wp2_with ((with_reducible show wpList _ _ _ (⟨some 90, _, _, _, _, _⟩ :: _) _ _); refine wpList_app _ rfl elemL (.tmp 84) (.tmp 89) rfl rfl HOW7.out rfl HSRC.out (np + n3) rfl (by omega) hsz7 ?_; intro A8 c8 w8 hown8 hg8 _; have HP8 := Lib.hid (HFIN.out A8 c8 w8 hown8 hg8); clear hown8 hg8)
          obtain ⟨hpd, hpr, hpb⟩ := HP8.out.last HR3.out.len HLS.out HLEN.out hlen7 HDA4.out HIA.out HBEL.out (by omega) ⟨by omega, by omega⟩
          obtain ⟨np2, hnp2⟩ : ∃ np2, np2 = np + n3 := ⟨_, rfl⟩
          have HPD := Lib.hid hpd
          have HPR := Lib.hid hpr
          have HPB := Lib.hid hpb
          have HDB8 := Lib.hid (show Dc w8 w.heap.size 0 gb (Hdl.feed Hdl.d0 p).1 I7 (.slice none 0 0) [] [] from by have := HP8.out.dc; rwa [List.take_of_length_le (by rw [HR3.out.len]; exact Nat.le_refl _)] at this)
          have HWH8 := Lib.hid (HWH.out.keep (by have := HP8.out.kept.size; omega) (fun k h1 h2 => HP8.out.kept.block k h2 (by omega)))
          have hnl : np + n3 = ls.length := by
            have := HP8.out.len
            rw [List.take_of_length_le (by rw [HR3.out.len]; exact Nat.le_refl _), ← HLS.out] at this
            exact this.symm
          rw [hnl] at HPR
          have HNL := Lib.hid hnl
          clear hpd hpr hpb hnl HFIN HSRC HOW7 hnp2
          go_wp2_with fail
          rw [HNL.out]
          refine (rsame_eq w8 A3 A8 ls.length c3 c8 ls HWH8.out.rdl HPR.out).mono ?_
          rintro e w9 ⟨rfl, hb9⟩
          have HA9 := Lib.hid (HPD.out.below hb9)
          have HD9 := Lib.hid (HDB8.out.below hb9)
          have HB9 := Lib.hid (HPB.out.trans (hb9.mono HPB.out.size))
          clear hb9
          obtain ⟨dd, hdd⟩ : ∃ dd, dd = (Hdl.feed Hdl.d0 p).1 := ⟨_, rfl⟩
          rw [← hdd] at HA9 HD9
          obtain ⟨Z, hZ⟩ : ∃ Z : Int, Z = (if dd.hunts = true then -1 else (dd.inn.length : Int)) := ⟨_, rfl⟩
          have HZZ := Lib.hid hZ
          clear hdd hZ
          go_wp2_with fail
          refine (dstats_any _ HA9.out).mono ?_
          rintro e w10 ⟨rfl, hb10⟩
          have HD10 := Lib.hid (HD9.out.below hb10)
          have HA10 := Lib.hid (HA9.out.below hb10)
          have HB10 := Lib.hid (HB9.out.trans (hb10.mono HB9.out.size))
          clear hb10
          simp only [mets]
          go_wp2_with fail
          refine (dstats_any _ HD10.out).mono ?_
          rintro e w11 ⟨rfl, hb11⟩
          have HD11 := Lib.hid (HD10.out.below hb11)
          have HA11 := Lib.hid (HA10.out.below hb11)
          have HB11 := Lib.hid (HB10.out.trans (hb11.mono HB10.out.size))
          clear hb11
          simp only [mets]
          go_wp2_with fail
          refine (dinside_any _ HA11.out).mono ?_
          rintro e w12 ⟨rfl, rfl⟩
          rw [← HZZ.out]
          go_wp2_with fail
          refine (dinside_any _ HD11.out).mono ?_
          rintro e w13 ⟨rfl, rfl⟩
          rw [← HZZ.out]
          go_wp2_with fail
          refine (awake_any _).mono ?_
          rintro e w14 ⟨rfl, hb14⟩
          go_wp2
          go_ret
          exact ⟨rfl, HB11.out.trans (hb14.mono HB11.out.size)⟩
        · obtain ⟨t, rfl⟩ : ∃ t, t = m := ⟨_, rfl⟩
          have hft : f ≤ t := hf
          have htm : t ≤ t := Nat.le_refl _
          have hokf := Hdl.ok_feed (p.take f) Hdl.ok0
          have hlef := Hdl.le_feed (p.take f) Hdl.le0
          have hlf : (p.take f).length ≤ f := List.length_take_le _ _
          have hdis : ∀ i, DcS gb I (.slice none 0 0) i → i < wr.heap.size := by
            rintro i (h1 | h1 | h1)
            · rw [h1]; exact hI.out.dc.lt
            · exact (hI.out.dc.hi.lt i h1).2
            · simp [Value.ownBlock] at h1
          have hpt : p.take t = p.take f ++ (p.take t).drop f := by
            have h1 : (p.take t).take f = p.take f := by rw [List.take_take, Nat.min_eq_left hft]
            have h2 := List.take_append_drop f (p.take t)
            rw [h1] at h2
            exact h2.symm
          have hfe := Hdl.feed_append (p.take f) ((p.take t).drop f) Hdl.d0
          rw [← hpt] at hfe
          have hrs := (HR3.out.take (k := t) htm).drop (k := f) hft
          rw [if_neg (by omega)] at hrs
          have hslb : ∀ b off, (A.map (·.add f)) = some ⟨b, off, none⟩ → 0 < (t - f) → b < w.heap.size := fun b off e h0 => by
            obtain ⟨b', off', e', hb', _⟩ := hrs.at_ h0
            rw [e] at e'
            injection e' with e'
            injection e' with e'
            omega
          obtain ⟨df, hdf⟩ : ∃ df, df = (Hdl.feed Hdl.d0 (p.take f)).1 := ⟨_, rfl⟩
          have hdcI := hI.out.dc
          rw [← hdf] at hokf hlef hfe hdcI
          obtain ⟨ls3, hls3⟩ : ∃ ls3, ls3 = (Hdl.feed df ((p.take t).drop f)).2 := ⟨_, rfl⟩
          obtain ⟨d2, hd2⟩ : ∃ d2, d2 = (Hdl.feed df ((p.take t).drop f)).1 := ⟨_, rfl⟩
          have htt := Hdl.told_feed (p.take t) Hdl.d0
          rw [← hls3, ← hd2] at hfe
          have hlow := hdcI.low
          have hbw := HBW.out
          have hfd2 := dfeed_any (xs := []) (told := []) wr (A.map (·.add f)) (t - f) (c - f) ((p.take t).drop f) (hdcI.recut (Nat.le_refl _)) (hrs.below hbw) (fun h0 b off e h => by
              have h1 := hslb b off e h0
              rcases h with h | h | h
              · omega
              · have := (hdcI.hi.lt b h).1
                omega
              · simp [Value.ownBlock] at h) hokf 3000 (hlef.mono (by omega)) (by omega) (by simp <;> omega)
          rw [List.nil_append, ← hls3, ← hd2] at hfd2
          have HFD2 := Lib.hid hfd2
          have HFE := Lib.hid hfe
          have HTT := Lib.hid htt
          have HP6 := hI
          clear hokf hlef hdis hpt hfe htt hrs hslb hdf hls3 hd2 hdcI hlf hfd2 hbw hlow
          go_wp2_with fail
          refine HFD2.out.mono ?_
          rintro e w7 ⟨I7, A7, c7, xs7, rfl, hd7, hs7, ht7, hk7, hi7, _⟩
          have hone := ht7.one
          obtain ⟨n3, hn3⟩ : ∃ n3, n3 = ls3.length := ⟨_, rfl⟩
          rw [← hn3] at hs7 ⊢
          have hown7 : w7.ownsRow w4.heap.size 25 1 (.slice Ap np cp) np xs := row_keep HP6.out.own fun k e => hk7.block k (World.ownsRow.lt HP6.out.own k e).2 (HP6.out.row e)
          have hlen7 : np + n3 ≤ 3000 := by
            have h1 := HTT.out
            rw [HFE.out] at h1
            have h2 := List.length_take_le t p
            have h3 := HP6.out.len
            simp only [List.length_append] at h1
            omega
          have hsz7 : w4.heap.size ≤ w7.heap.size := Nat.le_trans HP6.out.kept.size hk7.size
          have HSRC := Lib.hid (hs7.src hone)
          have HOW7 := Lib.hid hown7
          have HFIN : Hid (∀ (A' : Option Addr) (c' : Nat) (w8 : World), w8.ownsRow w4.heap.size 25 1 (.slice A' (np + n3) c') (np + n3) (xs ++ xs7) → w7.grownBy w8 (Value.ownBlock (.slice Ap np cp)) → PI w w4 w8 gb0 p t gb I7 A' (np + n3) c' (xs ++ xs7)) := fun A' c' w8 h1 h2 => HP6.out.feed hd7 hn3.symm ht7 hk7 hi7 HFE.out h1 h2
          clear hd7 hs7 ht7 hk7 hi7 hone hown7 hn3
          go_wp2_with ((with_reducible show wpList _ _ _ (⟨some 90, _, _, _, _, _⟩ :: _) _ _); refine wpList_app _ rfl elemL (.tmp 84) (.tmp 89) rfl rfl HOW7.out rfl HSRC.out (np + n3) rfl (by omega) hsz7 ?_; intro A8 c8 w8 hown8 hg8 _; have HP8 := Lib.hid (HFIN.out A8 c8 w8 hown8 hg8); clear hown8 hg8)
          obtain ⟨hpd, hpr, hpb⟩ := HP8.out.last HR3.out.len HLS.out HLEN.out hlen7 HDA4.out HIA.out HBEL.out (by omega) ⟨by omega, by omega⟩
          obtain ⟨np2, hnp2⟩ : ∃ np2, np2 = np + n3 := ⟨_, rfl⟩
          have HPD := Lib.hid hpd
          have HPR := Lib.hid hpr
          have HPB := Lib.hid hpb
          have HDB8 := Lib.hid (show Dc w8 w.heap.size 0 gb (Hdl.feed Hdl.d0 p).1 I7 (.slice none 0 0) [] [] from by have := HP8.out.dc; rwa [List.take_of_length_le (by rw [HR3.out.len]; exact Nat.le_refl _)] at this)
          have HWH8 := Lib.hid (HWH.out.keep (by have := HP8.out.kept.size; omega) (fun k h1 h2 => HP8.out.kept.block k h2 (by omega)))
          have hnl : np + n3 = ls.length := by
            have := HP8.out.len
            rw [List.take_of_length_le (by rw [HR3.out.len]; exact Nat.le_refl _), ← HLS.out] at this
            exact this.symm
          rw [hnl] at HPR
          have HNL := Lib.hid hnl
          clear hpd hpr hpb hnl HFIN HSRC HOW7 hnp2
          go_wp2_with fail
          rw [HNL.out]
          refine (rsame_eq w8 A3 A8 ls.length c3 c8 ls HWH8.out.rdl HPR.out).mono ?_
          rintro e w9 ⟨rfl, hb9⟩
          have HA9 := Lib.hid (HPD.out.below hb9)
          have HD9 := Lib.hid (HDB8.out.below hb9)
          have HB9 := Lib.hid (HPB.out.trans (hb9.mono HPB.out.size))
          clear hb9
          obtain ⟨dd, hdd⟩ : ∃ dd, dd = (Hdl.feed Hdl.d0 p).1 := ⟨_, rfl⟩
          rw [← hdd] at HA9 HD9
          obtain ⟨Z, hZ⟩ : ∃ Z : Int, Z = (if dd.hunts = true then -1 else (dd.inn.length : Int)) := ⟨_, rfl⟩
          have HZZ := Lib.hid hZ
          clear hdd hZ
          go_wp2_with fail
          refine (dstats_any _ HA9.out).mono ?_
          rintro e w10 ⟨rfl, hb10⟩
          have HD10 := Lib.hid (HD9.out.below hb10)
          have HA10 := Lib.hid (HA9.out.below hb10)
          have HB10 := Lib.hid (HB9.out.trans (hb10.mono HB9.out.size))
          clear hb10
          simp only [mets]
          go_wp2_with fail
          refine (dstats_any _ HD10.out).mono ?_
          rintro e w11 ⟨rfl, hb11⟩
          have HD11 := Lib.hid (HD10.out.below hb11)
          have HA11 := Lib.hid (HA10.out.below hb11)
          have HB11 := Lib.hid (HB10.out.trans (hb11.mono HB10.out.size))
          clear hb11
          simp only [mets]
          go_wp2_with fail
          refine (dinside_any _ HA11.out).mono ?_
          rintro e w12 ⟨rfl, rfl⟩
          rw [← HZZ.out]
          go_wp2_with fail
          refine (dinside_any _ HD11.out).mono ?_
          rintro e w13 ⟨rfl, rfl⟩
          rw [← HZZ.out]
          go_wp2_with fail
          refine (awake_any _).mono ?_
          rintro e w14 ⟨rfl, hb14⟩
          go_wp2
          go_ret
          exact ⟨rfl, HB11.out.trans (hb14.mono HB11.out.size)⟩
      · have hk2 : ¬ ((k : Int) ≤ (n1 : Int)) := by omega
        by_cases hcf : c = f
        · obtain rfl : f = m := by omega
          obtain rfl : f = c := hcf.symm
          have hft : f ≤ f := Nat.le_refl _
          have htm : f ≤ f := Nat.le_refl _
          have hokf := Hdl.ok_feed (p.take f) Hdl.ok0
          have hlef := Hdl.le_feed (p.take f) Hdl.le0
          have hlf : (p.take f).length ≤ f := List.length_take_le _ _
          have hdis : ∀ i, DcS gb I (.slice none 0 0) i → i < wr.heap.size := by
            rintro i (h1 | h1 | h1)
            · rw [h1]; exact hI.out.dc.lt
            · exact (hI.out.dc.hi.lt i h1).2
            · simp [Value.ownBlock] at h1
          have hpt : p.take f = p.take f ++ (p.take f).drop f := by
            have h1 : (p.take f).take f = p.take f := by rw [List.take_take, Nat.min_eq_left hft]
            have h2 := List.take_append_drop f (p.take f)
            rw [h1] at h2
            exact h2.symm
          have hfe := Hdl.feed_append (p.take f) ((p.take f).drop f) Hdl.d0
          rw [← hpt] at hfe
          have hrs : Rd w A 0 0 ((p.take f).drop f) := by
            have h1 : (p.take f).drop f = [] := List.eq_nil_of_length_eq_zero (by rw [List.length_drop, List.length_take]; omega)
            rw [h1]
            exact Rd.nil _ _ _
          have hslb : ∀ b off, A = some ⟨b, off, none⟩ → 0 < 0 → b < w.heap.size := fun b off e h0 => by
            obtain ⟨b', off', e', hb', _⟩ := hrs.at_ h0
            rw [e] at e'
            injection e' with e'
            injection e' with e'
            omega
          obtain ⟨df, hdf⟩ : ∃ df, df = (Hdl.feed Hdl.d0 (p.take f)).1 := ⟨_, rfl⟩
          have hdcI := hI.out.dc
          rw [← hdf] at hokf hlef hfe hdcI
          obtain ⟨ls3, hls3⟩ : ∃ ls3, ls3 = (Hdl.feed df ((p.take f).drop f)).2 := ⟨_, rfl⟩
          obtain ⟨d2, hd2⟩ : ∃ d2, d2 = (Hdl.feed df ((p.take f).drop f)).1 := ⟨_, rfl⟩
          have htt := Hdl.told_feed (p.take f) Hdl.d0
          rw [← hls3, ← hd2] at hfe
          have hlow := hdcI.low
          have hbw := HBW.out
          have hfd2 := dfeed_any (xs := []) (told := []) wr A 0 0 ((p.take f).drop f) (hdcI.recut (Nat.le_refl _)) (hrs.below hbw) (fun h0 b off e h => by
              have h1 := hslb b off e h0
              rcases h with h | h | h
              · omega
              · have := (hdcI.hi.lt b h).1
                omega
              · simp [Value.ownBlock] at h) hokf 3000 (hlef.mono (by omega)) (by omega) (by simp <;> omega)
          rw [List.nil_append, ← hls3, ← hd2] at hfd2
          have HFD2 := Lib.hid hfd2
          have HFE := Lib.hid hfe
          have HTT := Lib.hid htt
          have HP6 := hI
          clear hokf hlef hdis hpt hfe htt hrs hslb hdf hls3 hd2 hdcI hlf hfd2 hbw hlow
          go_wp2_with fail
          refine HFD2.out.mono ?_
          rintro e w7 ⟨I7, A7, c7, xs7, rfl, hd7, hs7, ht7, hk7, hi7, _⟩
          have hone := ht7.one
          obtain ⟨n3, hn3⟩ : ∃ n3, n3 = ls3.length := ⟨_, rfl⟩
          rw [← hn3] at hs7 ⊢
          have hown7 : w7.ownsRow w4.heap.size 25 1 (.slice Ap np cp) np xs := row_keep HP6.out.own fun k e => hk7.block k (World.ownsRow.lt HP6.out.own k e).2 (HP6.out.row e)
          have hlen7 : np + n3 ≤ 3000 := by
            have h1 := HTT.out
            rw [HFE.out] at h1
            have h2 := List.length_take_le f p
            have h3 := HP6.out.len
            simp only [List.length_append] at h1
            omega
          have hsz7 : w4.heap.size ≤ w7.heap.size := Nat.le_trans HP6.out.kept.size hk7.size
          have HSRC := Lib.hid (hs7.src hone)
          have HOW7 := Lib.hid hown7
          have HFIN : Hid (∀ (A' : Option Addr) (c' : Nat) (w8 : World), w8.ownsRow w4.heap.size 25 1 (.slice A' (np + n3) c') (np + n3) (xs ++ xs7) → w7.grownBy w8 (Value.ownBlock (.slice Ap np cp)) → PI w w4 w8 gb0 p f gb I7 A' (np + n3) c' (xs ++ xs7)) := fun A' c' w8 h1 h2 => HP6.out.feed hd7 hn3.symm ht7 hk7 hi7 HFE.out h1 h2
          clear hd7 hs7 ht7 hk7 hi7 hone hown7 hn3
          go_wp2_with ((with_reducible show wpList _ _ _ (⟨some 90, _, _, _, _, _⟩ :: _) _ _); refine wpList_app _ rfl elemL (.tmp 84) (.tmp 89) rfl rfl HOW7.out rfl HSRC.out (np + n3) rfl (by omega) hsz7 ?_; intro A8 c8 w8 hown8 hg8 _; have HP8 := Lib.hid (HFIN.out A8 c8 w8 hown8 hg8); clear hown8 hg8)
          obtain ⟨hpd, hpr, hpb⟩ := HP8.out.last HR3.out.len HLS.out HLEN.out hlen7 HDA4.out HIA.out HBEL.out (by omega) ⟨by omega, by omega⟩
          obtain ⟨np2, hnp2⟩ : ∃ np2, np2 = np + n3 := ⟨_, rfl⟩
          have HPD := Lib.hid hpd
          have HPR := Lib.hid hpr
          have HPB := Lib.hid hpb
          have HDB8 := Lib.hid (show Dc w8 w.heap.size 0 gb (Hdl.feed Hdl.d0 p).1 I7 (.slice none 0 0) [] [] from by have := HP8.out.dc; rwa [List.take_of_length_le (by rw [HR3.out.len]; exact Nat.le_refl _)] at this)
          have HWH8 := Lib.hid (HWH.out.keep (by have := HP8.out.kept.size; omega) (fun k h1 h2 => HP8.out.kept.block k h2 (by omega)))
          have hnl : np + n3 = ls.length := by
            have := HP8.out.len
            rw [List.take_of_length_le (by rw [HR3.out.len]; exact Nat.le_refl _), ← HLS.out] at this
            exact this.symm
          rw [hnl] at HPR
          have HNL := Lib.hid hnl
          clear hpd hpr hpb hnl HFIN HSRC HOW7 hnp2
          go_wp2_with fail
          rw [HNL.out]
          refine (rsame_eq w8 A3 A8 ls.length c3 c8 ls HWH8.out.rdl HPR.out).mono ?_
          rintro e w9 ⟨rfl, hb9⟩
          have HA9 := Lib.hid (HPD.out.below hb9)
          have HD9 := Lib.hid (HDB8.out.below hb9)
          have HB9 := Lib.hid (HPB.out.trans (hb9.mono HPB.out.size))
          clear hb9
          obtain ⟨dd, hdd⟩ : ∃ dd, dd = (Hdl.feed Hdl.d0 p).1 := ⟨_, rfl⟩
          rw [← hdd] at HA9 HD9
          obtain ⟨Z, hZ⟩ : ∃ Z : Int, Z = (if dd.hunts = true then -1 else (dd.inn.length : Int)) := ⟨_, rfl⟩
          have HZZ := Lib.hid hZ
          clear hdd hZ
          go_wp2_with fail
          refine (dstats_any _ HA9.out).mono ?_
          rintro e w10 ⟨rfl, hb10⟩
          have HD10 := Lib.hid (HD9.out.below hb10)
          have HA10 := Lib.hid (HA9.out.below hb10)
          have HB10 := Lib.hid (HB9.out.trans (hb10.mono HB9.out.size))
          clear hb10
          simp only [mets]
          go_wp2_with fail
          refine (dstats_any _ HD10.out).mono ?_
          rintro e w11 ⟨rfl, hb11⟩
          have HD11 := Lib.hid (HD10.out.below hb11)
          have HA11 := Lib.hid (HA10.out.below hb11)
          have HB11 := Lib.hid (HB10.out.trans (hb11.mono HB10.out.size))
          clear hb11
          simp only [mets]
          go_wp2_with fail
          refine (dinside_any _ HA11.out).mono ?_
          rintro e w12 ⟨rfl, rfl⟩
          rw [← HZZ.out]
          go_wp2_with fail
          refine (dinside_any _ HD11.out).mono ?_
          rintro e w13 ⟨rfl, rfl⟩
          rw [← HZZ.out]
          go_wp2_with fail
          refine (awake_any _).mono ?_
          rintro e w14 ⟨rfl, hb14⟩
          go_wp2
          go_ret
          exact ⟨rfl, HB11.out.trans (hb14.mono HB11.out.size)⟩
        · obtain ⟨t, rfl⟩ : ∃ t, t = m := ⟨_, rfl⟩
          have hft : f ≤ t := hf
          have htm : t ≤ t := Nat.le_refl _
          have hokf := Hdl.ok_feed (p.take f) Hdl.ok0
          have hlef := Hdl.le_feed (p.take f) Hdl.le0
          have hlf : (p.take f).length ≤ f := List.length_take_le _ _
          have hdis : ∀ i, DcS gb I (.slice none 0 0) i → i < wr.heap.size := by
            rintro i (h1 | h1 | h1)
            · rw [h1]; exact hI.out.dc.lt
            · exact (hI.out.dc.hi.lt i h1).2
            · simp [Value.ownBlock] at h1
          have hpt : p.take t = p.take f ++ (p.take t).drop f := by
            have h1 : (p.take t).take f = p.take f := by rw [List.take_take, Nat.min_eq_left hft]
            have h2 := List.take_append_drop f (p.take t)
            rw [h1] at h2
            exact h2.symm
          have hfe := Hdl.feed_append (p.take f) ((p.take t).drop f) Hdl.d0
          rw [← hpt] at hfe
          have hrs := (HR3.out.take (k := t) htm).drop (k := f) hft
          rw [if_neg (by omega)] at hrs
          have hslb : ∀ b off, (A.map (·.add f)) = some ⟨b, off, none⟩ → 0 < (t - f) → b < w.heap.size := fun b off e h0 => by
            obtain ⟨b', off', e', hb', _⟩ := hrs.at_ h0
            rw [e] at e'
            injection e' with e'
            injection e' with e'
            omega
          obtain ⟨df, hdf⟩ : ∃ df, df = (Hdl.feed Hdl.d0 (p.take f)).1 := ⟨_, rfl⟩
          have hdcI := hI.out.dc
          rw [← hdf] at hokf hlef hfe hdcI
          obtain ⟨ls3, hls3⟩ : ∃ ls3, ls3 = (Hdl.feed df ((p.take t).drop f)).2 := ⟨_, rfl⟩
          obtain ⟨d2, hd2⟩ : ∃ d2, d2 = (Hdl.feed df ((p.take t).drop f)).1 := ⟨_, rfl⟩
          have htt := Hdl.told_feed (p.take t) Hdl.d0
          rw [← hls3, ← hd2] at hfe
          have hlow := hdcI.low
          have hbw := HBW.out
          have hfd2 := dfeed_any (xs := []) (told := []) wr (A.map (·.add f)) (t - f) (c - f) ((p.take t).drop f) (hdcI.recut (Nat.le_refl _)) (hrs.below hbw) (fun h0 b off e h => by
              have h1 := hslb b off e h0
              rcases h with h | h | h
              · omega
              · have := (hdcI.hi.lt b h).1
                omega
              · simp [Value.ownBlock] at h) hokf 3000 (hlef.mono (by omega)) (by omega) (by simp <;> omega)
          rw [List.nil_append, ← hls3, ← hd2] at hfd2
          have HFD2 := Lib.hid hfd2
          have HFE := Lib.hid hfe
          have HTT := Lib.hid htt
          have HP6 := hI
          clear hokf hlef hdis hpt hfe htt hrs hslb hdf hls3 hd2 hdcI hlf hfd2 hbw hlow
          go_wp2_with fail
          refine HFD2.out.mono ?_
          rintro e w7 ⟨I7, A7, c7, xs7, rfl, hd7, hs7, ht7, hk7, hi7, _⟩
          have hone := ht7.one
          obtain ⟨n3, hn3⟩ : ∃ n3, n3 = ls3.length := ⟨_, rfl⟩
          rw [← hn3] at hs7 ⊢
          have hown7 : w7.ownsRow w4.heap.size 25 1 (.slice Ap np cp) np xs := row_keep HP6.out.own fun k e => hk7.block k (World.ownsRow.lt HP6.out.own k e).2 (HP6.out.row e)
          have hlen7 : np + n3 ≤ 3000 := by
            have h1 := HTT.out
            rw [HFE.out] at h1
            have h2 := List.length_take_le t p
            have h3 := HP6.out.len
            simp only [List.length_append] at h1
            omega
          have hsz7 : w4.heap.size ≤ w7.heap.size := Nat.le_trans HP6.out.kept.size hk7.size
          have HSRC := Lib.hid (hs7.src hone)
          have HOW7 := Lib.hid hown7
          have HFIN : Hid (∀ (A' : Option Addr) (c' : Nat) (w8 : World), w8.ownsRow w4.heap.size 25 1 (.slice A' (np + n3) c') (np + n3) (xs ++ xs7) → w7.grownBy w8 (Value.ownBlock (.slice Ap np cp)) → PI w w4 w8 gb0 p t gb I7 A' (np + n3) c' (xs ++ xs7)) := fun A' c' w8 h1 h2 => HP6.out.feed hd7 hn3.symm ht7 hk7 hi7 HFE.out h1 h2
          clear hd7 hs7 ht7 hk7 hi7 hone hown7 hn3
          go_wp2_with ((with_reducible show wpList _ _ _ (⟨some 90, _, _, _, _, _⟩ :: _) _ _); refine wpList_app _ rfl elemL (.tmp 84) (.tmp 89) rfl rfl HOW7.out rfl HSRC.out (np + n3) rfl (by omega) hsz7 ?_; intro A8 c8 w8 hown8 hg8 _; have HP8 := Lib.hid (HFIN.out A8 c8 w8 hown8 hg8); clear hown8 hg8)
          obtain ⟨hpd, hpr, hpb⟩ := HP8.out.last HR3.out.len HLS.out HLEN.out hlen7 HDA4.out HIA.out HBEL.out (by omega) ⟨by omega, by omega⟩
          obtain ⟨np2, hnp2⟩ : ∃ np2, np2 = np + n3 := ⟨_, rfl⟩
          have HPD := Lib.hid hpd
          have HPR := Lib.hid hpr
          have HPB := Lib.hid hpb
          have HDB8 := Lib.hid (show Dc w8 w.heap.size 0 gb (Hdl.feed Hdl.d0 p).1 I7 (.slice none 0 0) [] [] from by have := HP8.out.dc; rwa [List.take_of_length_le (by rw [HR3.out.len]; exact Nat.le_refl _)] at this)
          have HWH8 := Lib.hid (HWH.out.keep (by have := HP8.out.kept.size; omega) (fun k h1 h2 => HP8.out.kept.block k h2 (by omega)))
          have hnl : np + n3 = ls.length := by
            have := HP8.out.len
            rw [List.take_of_length_le (by rw [HR3.out.len]; exact Nat.le_refl _), ← HLS.out] at this
            exact this.symm
          rw [hnl] at HPR
          have HNL := Lib.hid hnl
          clear hpd hpr hpb hnl HFIN HSRC HOW7 hnp2
          go_wp2_with fail
          rw [HNL.out]
          refine (rsame_eq w8 A3 A8 ls.length c3 c8 ls HWH8.out.rdl HPR.out).mono ?_
          rintro e w9 ⟨rfl, hb9⟩
          have HA9 := Lib.hid (HPD.out.below hb9)
          have HD9 := Lib.hid (HDB8.out.below hb9)
          have HB9 := Lib.hid (HPB.out.trans (hb9.mono HPB.out.size))
          clear hb9
          obtain ⟨dd, hdd⟩ : ∃ dd, dd = (Hdl.feed Hdl.d0 p).1 := ⟨_, rfl⟩
          rw [← hdd] at HA9 HD9
          obtain ⟨Z, hZ⟩ : ∃ Z : Int, Z = (if dd.hunts = true then -1 else (dd.inn.length : Int)) := ⟨_, rfl⟩
          have HZZ := Lib.hid hZ
          clear hdd hZ
          go_wp2_with fail
          refine (dstats_any _ HA9.out).mono ?_
          rintro e w10 ⟨rfl, hb10⟩
          have HD10 := Lib.hid (HD9.out.below hb10)
          have HA10 := Lib.hid (HA9.out.below hb10)
          have HB10 := Lib.hid (HB9.out.trans (hb10.mono HB9.out.size))
          clear hb10
          simp only [mets]
          go_wp2_with fail
          refine (dstats_any _ HD10.out).mono ?_
          rintro e w11 ⟨rfl, hb11⟩
          have HD11 := Lib.hid (HD10.out.below hb11)
          have HA11 := Lib.hid (HA10.out.below hb11)
          have HB11 := Lib.hid (HB10.out.trans (hb11.mono HB10.out.size))
          clear hb11
          simp only [mets]
          go_wp2_with fail
          refine (dinside_any _ HA11.out).mono ?_
          rintro e w12 ⟨rfl, rfl⟩
          rw [← HZZ.out]
          go_wp2_with fail
          refine (dinside_any _ HD11.out).mono ?_
          rintro e w13 ⟨rfl, rfl⟩
          rw [← HZZ.out]
          go_wp2_with fail
          refine (awake_any _).mono ?_
          rintro e w14 ⟨rfl, hb14⟩
          go_wp2
          go_ret
          exact ⟨rfl, HB11.out.trans (hb14.mono HB11.out.size)⟩
end Go.Proofs.Ytpfilomckijmkaa
