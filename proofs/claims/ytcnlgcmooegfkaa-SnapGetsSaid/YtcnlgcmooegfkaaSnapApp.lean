/-
  EVENTS: the walk of store.Apply, for an event that holds a message.
-/
import Derived.Test.YtcnlgcmooegfkaaSnapMay
import Derived.Test.YtcnlgcmooegfkaaSnapSF
import Derived.Test.YtcnlgcmooegfkaaSnapUse
namespace Go.Proofs.Ytcnlgcmooegfkaa
open Go.RowKit Mg Sn

/-- bytes, copied behind an empty literal -/
theorem app_bytes (w : World) {p : Nat} (hp : w.heap[p]? = some (.cells #[] 5 (0, 0))) {A : Option Addr} {n c : Nat} {l : List UInt8} (h : Rd w A n c l) (hn : n ≤ 1000000000000) (ty : TypeId) :
    ∃ A' c' w', (Builtin.append_ #[28, 28] ty #[.slice (some ⟨p, 0, none⟩) 0 0, .slice A n c]).run Try.prog w = .ok (.slice A' n c') w' ∧ Below w.heap.size w w' := by
  obtain ⟨A', c', w', h1, _, h3⟩ := run_appl (P := Try.prog) w elemB ty (B := 0) hp (Nat.zero_le _) c h.src (by omega); exact ⟨A', c', w', h1, h3⟩
theorem idv_ne {i j : Mid} (h : i ≠ j) (w : World) : (Op.equal 52 (idv i) (idv j)).run Try.prog w = .ok false w := by rw [eq_id]; simp [h]
def ApplyP (w : World) (s hm : Nat) (self qh qb qg ep came by_ : Int) (u : List Int) (set : Value) (n : Nat) (kv : List (Value × Value)) (ids : List Mid) (i : Mid) (e : Ending) (w' : World) : Prop :=
  e = .returned (.int .i64 (mayE self ep ids i n)) ∧ Kept (fun j => j = s ∨ j = hm) w w' ∧ (mayE self ep ids i n = 0 →
    StoreAt w' s self qh qb qg ep (useU self ep u i) hm (came + 1) (by_ + n) set ∧ ∃ kv', kv'.length = kv.length + 1 ∧ MapAt w' hm kv' ∧ Places kv' (ids ++ [i]))

set_option maxRecDepth 100000 in
set_option maxHeartbeats 4000000 in
theorem apply_any (i : Mid) (A : Option Addr) (n c : Nat) (l : List UInt8) (w : World) (hR : Rd w A n c l) {s hm : Nat} {self qh qb qg ep came by_ : Int} {u : List Int} {set : Value} {kv : List (Value × Value)} {ids : List Mid}
    (hS : StoreAt w s self qh qb qg ep u hm came by_ set) (hM : MapAt w hm kv) (hP : Places kv ids) (hq : (kv.length : Int) < qh) (hn : chkM i n = 0 → (n : Int) ≤ qb - by_) (hb0 : 0 ≤ by_) (hqb : qb ≤ 4611686018427387904) (hc0 : 0 ≤ came) (hc1 : came ≤ 4611686018427387904) :
    Calls Try.prog 49 #[.pointer (some ⟨s, 0, none⟩), evv i (.slice A n c)] w (ApplyP w s hm self qh qb qg ep came by_ u set n kv ids i) := by
  obtain ⟨X, hX⟩ : ∃ X, X = mayE self ep ids i n := ⟨_, rfl⟩; have hbig := hR.big; have hsm : s ≠ hm := by
    rintro rfl; have := hS.2; rw [hM] at this; injection this with this
    cases this
  have HMAY : Hid (∀ w' : World, Below w.heap.size w w' → Calls Try.prog 66 #[.pointer (some ⟨s, 0, none⟩), evv i (.slice A n c)] w' fun e w'' => e = .returned (.int .i64 X) ∧ Below w'.heap.size w' w'') := fun w' h => by
    rw [hX]; exact may_any i A n c w' (hS.keep (h.block s hS.lt)) (hM.keep (h.block hm hM.lt)) hP hq hn hb0 hqb
  have hdX : X = 0 → (0 ≤ i.d ∧ i.d ≤ 63) ∧ n ≤ 48 := by
    intro h; rw [hX, mayE] at h
    by_cases hc : chkM i n = 0
    · unfold chkM at hc
      split at hc
      · rename_i hk
        unfold chk at hk
        split at hk
        · rename_i hI
          refine ⟨hI.2.1, ?_⟩
          split at hc
          · cases hc
          · split at hc
            · cases hc
            · omega
        · cases hk
      · rename_i hk; exact absurd hc hk
    · rw [if_pos hc] at h; exact absurd h hc
  have hiX : X = 0 → i ∉ ids := by
    intro h hi; rw [hX, mayE] at h
    by_cases hc : chkM i n ≠ 0
    · rw [if_pos hc] at h; exact hc h
    · rw [if_neg hc] at h
      by_cases h2 : i.d = self ∨ (i.o = self ∧ ep < i.e)
      · rw [if_pos h2] at h; cases h
      · rw [if_neg h2, if_pos hi] at h; cases h
  have hnX : X = 0 → (n : Int) ≤ qb - by_ := by
    intro h; rw [hX, mayE] at h
    by_cases hc : chkM i n = 0
    · exact hn hc
    · rw [if_pos hc] at h; exact absurd h hc
  have HnX := Lib.hid hnX; have HdX := Lib.hid hdX; have HiX := Lib.hid hiX; have HX := Lib.hid hX; have HR := Lib.hid hR; have HS := Lib.hid hS; have HM := Lib.hid hM; have HP := Lib.hid hP; have hsw := hS.lt; have hmw := hM.lt; clear hX hR hS hM hP hdX hiX hnX hn; obtain ⟨o, d, e, k⟩ := i; unfold ApplyP; rw [← HX.out]; unfold evv at HMAY ⊢; simp only at HMAY ⊢
  go_enter Try.func49, Try.ntmps49
  go_wp2_with fail
  obtain ⟨W0, hW0⟩ : ∃ W0, W0 = w.alloc (.cells #[.int .i64 2, .int .i64 o, .int .i64 d, .int .i64 e, .int .i64 k, .slice A n c] 102) := ⟨_, rfl⟩; rw [← hW0]; have hb0' : Below w.heap.size w W0 := by rw [hW0]; exact (Below.refl _ _).alloc (Nat.le_refl _) _
  refine (HMAY.out W0 hb0').mono ?_; rintro e1 wv ⟨rfl, hb⟩; have hs0 : W0.heap.size = w.heap.size + 1 := by rw [hW0]; simp
  have v0 : W0.cell? ⟨w.heap.size, 0, none⟩ = some (.int .i64 2) := by rw [hW0]; exact World.cell?_alloc_mark w _ _ _ 0
  have v1 : W0.cell? ⟨w.heap.size, 1, none⟩ = some (.int .i64 o) := by rw [hW0]; exact World.cell?_alloc_mark w _ _ _ 1
  have v2 : W0.cell? ⟨w.heap.size, 2, none⟩ = some (.int .i64 d) := by rw [hW0]; exact World.cell?_alloc_mark w _ _ _ 2
  have v3 : W0.cell? ⟨w.heap.size, 3, none⟩ = some (.int .i64 e) := by rw [hW0]; exact World.cell?_alloc_mark w _ _ _ 3
  have v4 : W0.cell? ⟨w.heap.size, 4, none⟩ = some (.int .i64 k) := by rw [hW0]; exact World.cell?_alloc_mark w _ _ _ 4
  have v5 : W0.cell? ⟨w.heap.size, 5, none⟩ = some (.slice A n c) := by rw [hW0]; exact World.cell?_alloc_mark w _ _ _ 5
  have hvl : w.heap.size < W0.heap.size := by omega
  have v0 := (hb.cell (p := ⟨w.heap.size, 0, none⟩) hvl).trans v0; have v1 := (hb.cell (p := ⟨w.heap.size, 1, none⟩) hvl).trans v1; have v2 := (hb.cell (p := ⟨w.heap.size, 2, none⟩) hvl).trans v2; have v3 := (hb.cell (p := ⟨w.heap.size, 3, none⟩) hvl).trans v3; have v4 := (hb.cell (p := ⟨w.heap.size, 4, none⟩) hvl).trans v4; have v5 := (hb.cell (p := ⟨w.heap.size, 5, none⟩) hvl).trans v5; have hs1 := hb.size; have HB1 := Lib.hid (hb0'.trans (hb.mono (by omega))); have hvw : w.heap.size < wv.heap.size := by omega
  clear hb hb0' hW0
  by_cases hc : X = 0
  · subst hc; have hn48 := (HdX.out rfl).2; have hn := HnX.out rfl; obtain ⟨D, hD⟩ : ∃ D : Nat, d = D := ⟨d.toNat, (Int.toNat_of_nonneg (HdX.out rfl).1.1).symm⟩; have hD64 : D < 64 := by have h := (HdX.out rfl).1.2; have h2 : d ≤ 63 := h; omega
    have HNI := Lib.hid (HiX.out rfl); have HX0 := Lib.hid HX.out; subst hD
    go_wp2_with fail
    obtain ⟨W, hW⟩ : ∃ W, W = wv.alloc (.cells #[.int .i64 o, .int .i64 (D : Int), .int .i64 e, .int .i64 k] 52) := ⟨_, rfl⟩; rw [← hW]; have hWs : W.heap.size = wv.heap.size + 1 := by rw [hW]; simp
    have hiW : wv.heap.size < W.heap.size := by omega
    have hvW : w.heap.size < W.heap.size := by omega
    have hsW : s < W.heap.size := by omega
    have hmW : hm < W.heap.size := by omega
    have i0 : W.cell? ⟨wv.heap.size, 0, none⟩ = some (.int .i64 o) := by rw [hW]; exact World.cell?_alloc_mark wv _ _ _ 0
    have i1 : W.cell? ⟨wv.heap.size, 1, none⟩ = some (.int .i64 (D : Int)) := by rw [hW]; exact World.cell?_alloc_mark wv _ _ _ 1
    have i2 : W.cell? ⟨wv.heap.size, 2, none⟩ = some (.int .i64 e) := by rw [hW]; exact World.cell?_alloc_mark wv _ _ _ 2
    have i3 : W.cell? ⟨wv.heap.size, 3, none⟩ = some (.int .i64 k) := by rw [hW]; exact World.cell?_alloc_mark wv _ _ _ 3
    have hWW : Below wv.heap.size wv W := by rw [hW]; exact (Below.refl _ _).alloc (Nat.le_refl _) _
    have v5 := (hWW.cell (p := ⟨w.heap.size, 5, none⟩) hvw).trans v5; have hWB : Below w.heap.size w W := HB1.out.trans (hWW.mono (by omega)); have hSW : StoreAt W s self qh qb qg ep u hm came by_ set := HS.out.keep (hWB.block s hsw); have s69 : W.cell? ⟨s, 69, none⟩ = some (.map (some hm)) := (hSW.cell 69).trans (stC_hi hSW.1 0); have s70 : W.cell? ⟨s, 70, none⟩ = some (.int .i64 came) := (hSW.cell 70).trans (stC_hi hSW.1 1); have hMW : MapAt W hm kv := HM.out.keep (hWB.block hm hmw); have HSW := Lib.hid hSW; have HMW := Lib.hid hMW; have HRW := Lib.hid (HR.out.below hWB); have HWW := Lib.hid hWB; clear hW hWW hSW hMW hWB v0 v1 v2 v3 v4; refine Free.wp_last (I := fun w' => Below W.heap.size W w') (Gr := fun w1 w2 => Below w1.heap.size w1 w2) (by kernel_rfl) (by simp) (by kernel_rfl) (by kernel_rfl) (Below.refl _ _).drew ?_
    dsimp only [List.dropLast, List.getLast]
    apply Free.sv; intro a w1 hI hp
    · have e0 := hp.sl 0; simp at e0; refine ⟨Free.wn, ?_⟩; clear hp; go_simp; rfl
    apply Free.sv; intro a w1 hI hp
    · have e39 := hp.b 0 0; refine ⟨Free.wn, ?_⟩; clear hp; go_simp; rfl
    apply Free.sv; intro a w1 hI hp
    · have e40 := hp.b 1 0; refine ⟨Free.wn, ?_⟩; clear hp; go_simp; rfl
    apply Free.sv; intro a w1 hI hp
    · have e41 := hp.b 2 0; have ks69 := (hI.cell (p := ⟨s, 69, none⟩) hsW).trans s69; refine ⟨Free.wn, ?_⟩; clear hp; go_simp; rfl
    apply Free.sv; intro a w1 hI hp
    · have e6 := hp.sl 6; simp at e6; have ki0 := (hI.cell (p := ⟨wv.heap.size, 0, none⟩) hiW).trans i0; have ki1 := (hI.cell (p := ⟨wv.heap.size, 1, none⟩) hiW).trans i1; have ki2 := (hI.cell (p := ⟨wv.heap.size, 2, none⟩) hiW).trans i2; have ki3 := (hI.cell (p := ⟨wv.heap.size, 3, none⟩) hiW).trans i3; refine ⟨Free.wn, ?_⟩; clear hp; go_simp; rfl
    apply Free.sv; intro a w1 hI hp
    · have e6 := hp.sl 6; simp at e6; have ki0 := (hI.cell (p := ⟨wv.heap.size, 0, none⟩) hiW).trans i0; have ki1 := (hI.cell (p := ⟨wv.heap.size, 1, none⟩) hiW).trans i1; have ki2 := (hI.cell (p := ⟨wv.heap.size, 2, none⟩) hiW).trans i2; have ki3 := (hI.cell (p := ⟨wv.heap.size, 3, none⟩) hiW).trans i3; refine ⟨Free.wn, ?_⟩; clear hp; go_simp; rfl
    refine Free.Seq.op (T := fun v w' => ∃ p, v = .slice (some ⟨p, 0, none⟩) 0 0 ∧ W.heap.size ≤ p ∧ w'.heap[p]? = some (.cells #[] 5 (0, 0))) (by rintro v x y ⟨p, rfl, h1, h2⟩ hg; exact ⟨p, rfl, h1, (hg.block p (Array.getElem?_eq_some_iff.1 h2).1).trans h2⟩) (fun a w1 hI hp => ?_) ?_
    · skip
      refine ⟨Free.wn, (.slice (some ⟨w1.heap.size, 0, none⟩) 0 0), (w1.alloc (.cells #[] 5)), ?_, ⟨_, rfl, hI.size, heap_alloc_new w1 _⟩, (Below.refl _ _).alloc (Nat.le_refl _) _, hI.alloc hI.size _⟩; clear hp; go_simp
    apply Free.sv; intro a w1 hI hp
    · have e3 := hp.sl 3; simp at e3; refine ⟨Free.wn, ?_⟩; clear hp; go_simp; rfl
    apply Free.sv; intro a w1 hI hp
    · have e46 := hp.b 7 0; refine ⟨Free.wn, ?_⟩; clear hp; go_simp; rfl
    apply Free.sv; intro a w1 hI hp
    · have e47 := hp.b 8 0; have kv5 := (hI.cell (p := ⟨w.heap.size, 5, none⟩) hvW).trans v5; refine ⟨Free.wn, ?_⟩; clear hp; go_simp; rfl
    refine Free.Seq.op (T := fun v w' => ∃ A' c', v = .slice A' n c') (fun _ _ _ h _ => h) (fun a w1 hI hp => ?_) ?_
    · have e48 := hp.b 9 0; obtain ⟨p, e45, hp1, hp2⟩ := hp.back 6 3 rfl rfl rfl rfl rfl; obtain ⟨A', c', w', hr, hbz⟩ := app_bytes w1 hp2 (HRW.out.below hI) (by omega) 28; exact ⟨Free.wn, .slice A' n c', w', exec_app (.tmp 45) (.tmp 48) rfl (by simpa [Act.eval] using e45) (by simpa [Act.eval] using e48) hr, ⟨A', c', rfl⟩, hbz, hI.trans (hbz.mono hI.size)⟩
    refine Free.Seq.op (T := fun v w' => ∃ A' c', v = .agg #[.int .i64 o, .int .i64 (D : Int), .int .i64 e, .int .i64 k, .slice A' n c']) (fun _ _ _ h _ => h) (fun a w1 hI hp => ?_) ?_
    · have e44 := hp.b 5 5; obtain ⟨A', c', e49⟩ := hp.back 10 0 rfl rfl rfl rfl rfl; refine ⟨Free.wn, .agg #[.int .i64 o, .int .i64 (D : Int), .int .i64 e, .int .i64 k, .slice A' n c'], w1, ?_, ⟨A', c', rfl⟩, Below.refl _ _, hI⟩; clear hp; go_simp
    apply Free.sv; intro a w1 hI hp
    · have e0 := hp.sl 0; simp at e0; refine ⟨Free.wn, ?_⟩; clear hp; go_simp; rfl
    apply Free.sv; intro a w1 hI hp
    · have e51 := hp.b 12 0; refine ⟨Free.wn, ?_⟩; clear hp; go_simp; rfl
    apply Free.sv; intro a w1 hI hp
    · have e52 := hp.b 13 0; refine ⟨Free.wn, ?_⟩; clear hp; go_simp; rfl
    apply Free.sv; intro a w1 hI hp
    · have e53 := hp.b 14 0; have ks70 := (hI.cell (p := ⟨s, 70, none⟩) hsW).trans s70; refine ⟨Free.wn, ?_⟩; clear hp; go_simp; rfl
    refine Free.Seq.op (T := fun v w' => ∃ A' c', v = .agg #[.int .i64 o, .int .i64 (D : Int), .int .i64 e, .int .i64 k, .slice A' n c', .int .i64 came]) (fun _ _ _ h _ => h) (fun a w1 hI hp => ?_) ?_
    · have e54 := hp.b 15 0; obtain ⟨A', c', e50⟩ := hp.back 11 4 rfl rfl rfl rfl rfl; refine ⟨Free.wn, .agg #[.int .i64 o, .int .i64 (D : Int), .int .i64 e, .int .i64 k, .slice A' n c', .int .i64 came], w1, ?_, ⟨A', c', rfl⟩, Below.refl _ _, hI⟩; clear hp; go_simp
    refine Free.Seq.done (by simp) (fun wz hIz => ?_); simp only [List.reverse_cons, List.reverse_nil, List.nil_append, List.cons_append, Free.All, Free.eqF, forall_eq]; rintro _ ⟨p6, rfl, -, -⟩ _ ⟨A7, c7, rfl⟩ _ ⟨A8, c8, rfl⟩ _ ⟨A9, c9, rfl⟩; simp only [Free.putL, Act.put, List.setIfInBounds_toArray, List.set_cons_zero, List.set_cons_succ]; refine ⟨trivial, ?_⟩; have hzz := hIz.size; have hMz : MapAt wz hm kv := HMW.out.keep (hIz.block hm hmW); have hup := update_new (P := Try.prog) (M := 96) (T := 52) (E := 122) (k := idv ⟨o, D, e, k⟩) Try.underlying96 Try.underlying52 (fun a b => by cases a <;> cases b <;> rfl) hMz (check_id false ⟨o, D, e, k⟩ wz) (fun x hx => by
      have : x.1 ∈ kv.map Prod.fst := List.mem_map_of_mem hx; rw [HP.out.1, List.mem_map] at this; obtain ⟨j, hj', hj⟩ := this; rw [← hj]; exact idv_ne (by rintro rfl; exact HNI.out hj') _) (.agg #[.int .i64 o, .int .i64 (D : Int), .int .i64 e, .int .i64 k, .slice A9 n c9, .int .i64 came])
    have hM10 := moreMap_at hMz (idv ⟨o, D, e, k⟩) (.agg #[.int .i64 o, .int .i64 (D : Int), .int .i64 e, .int .i64 k, .slice A9 n c9, .int .i64 came]); obtain ⟨W1, hW1⟩ : ∃ W1, W1 = moreMap wz hm kv (idv ⟨o, D, e, k⟩) (.agg #[.int .i64 o, .int .i64 (D : Int), .int .i64 e, .int .i64 k, .slice A9 n c9, .int .i64 came]) := ⟨_, rfl⟩; rw [← hW1] at hup hM10; have hs' : W1.heap.size = wz.heap.size := by rw [hW1]; exact moreMap_size _ _
    have hot : ∀ j, j ≠ hm → W1.heap[j]? = wz.heap[j]? := fun j hj => by rw [hW1]; exact moreMap_other _ _ hj
    have HP1 : Hid (Places (kv ++ [(idv ⟨o, D, e, k⟩, .agg #[.int .i64 o, .int .i64 (D : Int), .int .i64 e, .int .i64 k, .slice A9 n c9, .int .i64 came])]) (ids ++ [⟨o, D, e, k⟩])) := HP.out.snoc ⟨o, D, e, k⟩ ⟨_, _, _, _, _, _, _, _, rfl⟩; have HM1 := Lib.hid hM10; have HK1 : Hid (Kept (fun j => j = s ∨ j = hm) w W1) := Kept.trans (S' := fun j => j = hm) (Kept.all (HWW.out.trans (hIz.mono (by omega)))) ⟨by rw [hW1]; rfl, by rw [hW1]; rfl, by rw [hW1]; rfl, by omega, fun j _ hj => hot j hj⟩ (fun j _ h => .inr h); have hS1 : StoreAt W1 s self qh qb qg ep u hm came by_ set := HSW.out.keep ((hot s hsm).trans (hIz.block s hsW)); have a70 : W1.cell? ⟨s, 70, none⟩ = some (.int .i64 came) := (hS1.cell 70).trans (stC_hi hS1.1 1); have b70 : W1.frozen? ⟨s, 70, none⟩ = false := hS1.free 70; have hcw : IntKind.i64.wrap (came + 1) = came + 1 := IntWalk.i64_in _ (by omega); have HS1 := Lib.hid hS1; have hO1 : ∀ j, j ≠ s → j ≠ hm → j < W.heap.size → W1.heap[j]? = W.heap[j]? := fun j _ h2 h3 => (hot j h2).trans (hIz.block j h3)
    have HO1 := Lib.hid hO1; have hs1W : W.heap.size ≤ W1.heap.size := by omega
    clear hot hMz hM10 hS1 hO1 hIz; refine wpList_mapRun hup rfl _ _ _ rfl rfl rfl rfl ?_; clear hup hW1
    go_wp2_with fail
    obtain ⟨W2, hW2⟩ : ∃ W2, W2 = W1.setCell ⟨s, 70, none⟩ (.int .i64 (came + 1)) := ⟨_, rfl⟩; rw [← hW2]; have hs2' : W2.heap.size = W1.heap.size := by rw [hW2]; simp
    have hO2 : ∀ j, j ≠ s → W2.heap[j]? = W1.heap[j]? := fun j hj => by rw [hW2]; exact heap_setCell_other W1 ⟨s, 70, none⟩ j _ hj
    have hS2 : StoreAt W2 s self qh qb qg ep u hm (came + 1) by_ set := by rw [hW2]; exact HS1.out.setCame _
    have HK2 : Hid (Kept (fun j => j = s ∨ j = hm) w W2) := by show Kept _ _ _; rw [hW2]; exact HK1.out.setCell (.inl (.inl rfl)) _
    have HM2 := Lib.hid (HM1.out.keep (hO2 hm (by omega))); have s71 : W2.cell? ⟨s, 71, none⟩ = some (.int .i64 by_) := (hS2.cell 71).trans (stC_hi hS2.1 2); have hs2 : s < W2.heap.size := by omega
    have hv2 : w.heap.size < W2.heap.size := by omega
    have v5 : W2.cell? ⟨w.heap.size, 5, none⟩ = some (.slice A n c) := (World.cell?_of_block (w := W) (a := ⟨w.heap.size, 5, none⟩) ((hO2 w.heap.size (by omega)).trans (HO1.out w.heap.size (by omega) (by omega) hvW))).trans v5; have hbw : IntKind.i64.wrap (by_ + (n : Int)) = by_ + (n : Int) := IntWalk.i64_in _ (by omega); have HS2 := Lib.hid hS2; have HO2 : Hid (∀ j, j ≠ s → j ≠ hm → j < W.heap.size → W2.heap[j]? = W.heap[j]?) := fun j h1 h2 h3 => (hO2 j h1).trans (HO1.out j h1 h2 h3)
    clear hW2 hS2 hO2 a70 b70 s69 s70; refine Free.wp_last (I := fun w' => Below W2.heap.size W2 w') (Gr := fun w1 w2 => Below w1.heap.size w1 w2) (by kernel_rfl) (by simp) (by kernel_rfl) (by kernel_rfl) (Below.refl _ _).drew ?_
    dsimp only [List.dropLast, List.getLast]
    apply Free.sv; intro a w1 hI hp
    · have e0 := hp.sl 0; simp at e0; refine ⟨Free.wn, ?_⟩; clear hp; go_simp; rfl
    apply Free.sv; intro a w1 hI hp
    · have e63 := hp.b 0 0; refine ⟨Free.wn, ?_⟩; clear hp; go_simp; rfl
    apply Free.sv; intro a w1 hI hp
    · have e64 := hp.b 1 0; refine ⟨Free.wn, ?_⟩; clear hp; go_simp; rfl
    apply Free.sv; intro a w1 hI hp
    · have e65 := hp.b 2 0; have ks71 := (hI.cell (p := ⟨s, 71, none⟩) hs2).trans s71; refine ⟨Free.wn, ?_⟩; clear hp; go_simp; rfl
    apply Free.sv; intro a w1 hI hp
    · have e3 := hp.sl 3; simp at e3; refine ⟨Free.wn, ?_⟩; clear hp; go_simp; rfl
    apply Free.sv; intro a w1 hI hp
    · have e67 := hp.b 4 0; refine ⟨Free.wn, ?_⟩; clear hp; go_simp; rfl
    apply Free.sv; intro a w1 hI hp
    · have e68 := hp.b 5 0; have kv5 := (hI.cell (p := ⟨w.heap.size, 5, none⟩) hv2).trans v5; refine ⟨Free.wn, ?_⟩; clear hp; go_simp; rfl
    apply Free.sv; intro a w1 hI hp
    · have e69 := hp.b 6 0; refine ⟨Free.wn, ?_⟩; clear hp; go_simp; rfl
    apply Free.sv; intro a w1 hI hp
    · have e66 := hp.b 3 4; have e70 := hp.b 7 0; refine ⟨Free.wn, ?_⟩; clear hp; go_simp; rfl
    apply Free.sv; intro a w1 hI hp
    · have e63 := hp.b 0 8; refine ⟨Free.wn, ?_⟩; clear hp; go_simp; rfl
    apply Free.sv; intro a w1 hI hp
    · have e72 := hp.b 9 0; refine ⟨Free.wn, ?_⟩; clear hp; go_simp; rfl
    refine Free.Seq.done (by simp) (fun wz hIz => ?_); simp only [List.reverse_cons, List.reverse_nil, List.nil_append, List.cons_append, Free.All, Free.eqF, forall_eq]
    skip
    simp only [Free.putL, Act.put, List.setIfInBounds_toArray, List.set_cons_zero, List.set_cons_succ]; refine ⟨trivial, ?_⟩; have hzz := hIz.size; have hS3 : StoreAt wz s self qh qb qg ep u hm (came + 1) by_ set := HS2.out.keep (hIz.block s hs2); have a71 : wz.cell? ⟨s, 71, none⟩ = some (.int .i64 by_) := (hS3.cell 71).trans (stC_hi hS3.1 2); have b71 : wz.frozen? ⟨s, 71, none⟩ = false := hS3.free 71
    go_wp2_with fail
    obtain ⟨W3, hW3⟩ : ∃ W3, W3 = wz.setCell ⟨s, 71, none⟩ (.int .i64 (by_ + (n : Int))) := ⟨_, rfl⟩; rw [← hW3]; have hs3' : W3.heap.size = wz.heap.size := by rw [hW3]; simp
    have hO3 : ∀ j, j ≠ s → W3.heap[j]? = wz.heap[j]? := fun j hj => by rw [hW3]; exact heap_setCell_other wz ⟨s, 71, none⟩ j _ hj
    have hS3 : StoreAt W3 s self qh qb qg ep u hm (came + 1) (by_ + (n : Int)) set := by rw [hW3]; exact hS3.setBy _
    have HK3 : Hid (Kept (fun j => j = s ∨ j = hm) w W3) := by show Kept _ _ _; rw [hW3]; exact (HK2.out.trans (Kept.all hIz) (fun j _ h => h)).setCell (.inl (.inl rfl)) _
    have HM3 := Lib.hid (HM2.out.keep ((hO3 hm (by omega)).trans (hIz.block hm (by omega)))); have HO3 : Hid (∀ j, j ≠ s → j ≠ hm → j < W.heap.size → W3.heap[j]? = W.heap[j]?) := fun j h1 h2 h3 => (hO3 j h1).trans ((hIz.block j (by omega)).trans (HO2.out j h1 h2 h3))
    have hb : W3.heap[wv.heap.size]? = W.heap[wv.heap.size]? := HO3.out wv.heap.size (by omega) (by omega) hiW; have i0 : W3.cell? ⟨wv.heap.size, 0, none⟩ = some (.int .i64 o) := (World.cell?_of_block (w := W) (a := ⟨wv.heap.size, 0, none⟩) hb).trans i0; have i1 : W3.cell? ⟨wv.heap.size, 1, none⟩ = some (.int .i64 (D : Int)) := (World.cell?_of_block (w := W) (a := ⟨wv.heap.size, 1, none⟩) hb).trans i1; have i2 : W3.cell? ⟨wv.heap.size, 2, none⟩ = some (.int .i64 e) := (World.cell?_of_block (w := W) (a := ⟨wv.heap.size, 2, none⟩) hb).trans i2; have i3 : W3.cell? ⟨wv.heap.size, 3, none⟩ = some (.int .i64 k) := (World.cell?_of_block (w := W) (a := ⟨wv.heap.size, 3, none⟩) hb).trans i3; have s0 : W3.cell? ⟨s, 0, none⟩ = some (.int .i64 self) := (hS3.cell 0).trans (stC_lo 0 (by omega)); have s4 : W3.cell? ⟨s, 4, none⟩ = some (.int .i64 ep) := (hS3.cell 4).trans (stC_lo 4 (by omega)); have su : W3.cell? ⟨s, 5 + D, none⟩ = some (.int .i64 (u.getD D 0)) := (hS3.cell (5 + D)).trans (stC_mid hS3.1 D hD64); have HS3 := Lib.hid hS3; have hs3 : s < W3.heap.size := by omega
    have hi3 : wv.heap.size < W3.heap.size := by omega
    clear hW3 hS3 hO3 a71 b71 hIz hb s71 v5
    by_cases hos : o = self
    · have ho1 : (o == self) = true := by simpa using hos
      by_cases hep : e = ep
      · have he1 : (e == ep) = true := by simpa using hep
        refine Free.wp_seq (I := fun w' => Below W3.heap.size W3 w') (Gr := fun w1 w2 => Below w1.heap.size w1 w2) (by kernel_rfl) (by kernel_rfl) (Below.refl _ _).drew ?_
        apply Free.sv; intro a w1 hI hp
        · have e6 := hp.sl 6; simp at e6; refine ⟨Free.wn, ?_⟩; clear hp; go_simp; rfl
        apply Free.sv; intro a w1 hI hp
        · have e74 := hp.b 0 0; have ki0 := (hI.cell (p := ⟨wv.heap.size, 0, none⟩) hi3).trans i0; refine ⟨Free.wn, ?_⟩; clear hp; go_simp; rfl
        apply Free.sv; intro a w1 hI hp
        · have e0 := hp.sl 0; simp at e0; refine ⟨Free.wn, ?_⟩; clear hp; go_simp; rfl
        apply Free.sv; intro a w1 hI hp
        · have e76 := hp.b 2 0; refine ⟨Free.wn, ?_⟩; clear hp; go_simp; rfl
        apply Free.sv; intro a w1 hI hp
        · have e77 := hp.b 3 0; refine ⟨Free.wn, ?_⟩; clear hp; go_simp; rfl
        apply Free.sv; intro a w1 hI hp
        · have e78 := hp.b 4 0; have ks0 := (hI.cell (p := ⟨s, 0, none⟩) hs3).trans s0; refine ⟨Free.wn, ?_⟩; clear hp; go_simp; rfl
        apply Free.sv; intro a w1 hI hp
        · have e75 := hp.b 1 4; have e79 := hp.b 5 0; refine ⟨Free.wn, ?_⟩; clear hp; go_simp; rfl
        apply Free.sv; intro a w1 hI hp
        · have e80 := hp.b 6 0; refine ⟨Free.wn, ?_⟩; clear hp; go_simp; rfl
        apply Free.sv; intro a w1 hI hp
        · have e81 := hp.b 7 0; have e6 := hp.sl 6; simp at e6; refine ⟨hp.wt e81, ?_⟩; clear hp; go_simp; rfl
        apply Free.sv; intro a w1 hI hp
        · have e81 := hp.b 7 1; have e82 := hp.b 8 0; have ki2 := (hI.cell (p := ⟨wv.heap.size, 2, none⟩) hi3).trans i2; refine ⟨hp.wt e81, ?_⟩; clear hp; go_simp; rfl
        apply Free.sv; intro a w1 hI hp
        · have e81 := hp.b 7 2; have e0 := hp.sl 0; simp at e0; refine ⟨hp.wt e81, ?_⟩; clear hp; go_simp; rfl
        apply Free.sv; intro a w1 hI hp
        · have e81 := hp.b 7 3; have e84 := hp.b 10 0; refine ⟨hp.wt e81, ?_⟩; clear hp; go_simp; rfl
        apply Free.sv; intro a w1 hI hp
        · have e81 := hp.b 7 4; have e85 := hp.b 11 0; refine ⟨hp.wt e81, ?_⟩; clear hp; go_simp; rfl
        apply Free.sv; intro a w1 hI hp
        · have e81 := hp.b 7 5; have e86 := hp.b 12 0; have ks4 := (hI.cell (p := ⟨s, 4, none⟩) hs3).trans s4; refine ⟨hp.wt e81, ?_⟩; clear hp; go_simp; rfl
        apply Free.sv; intro a w1 hI hp
        · have e81 := hp.b 7 6; have e83 := hp.b 9 4; have e87 := hp.b 13 0; refine ⟨hp.wt e81, ?_⟩; clear hp; go_simp; rfl
        apply Free.sv; intro a w1 hI hp
        · have e81 := hp.b 7 7; have e88 := hp.b 14 0; refine ⟨Free.wn, ?_⟩; clear hp; go_simp; rfl
        refine Free.Seq.done (by simp) (fun wz hIz => ?_); simp only [List.reverse_cons, List.reverse_nil, List.nil_append, List.cons_append, Free.All, Free.eqF, forall_eq]; have HIZ3 := Lib.hid hIz; clear hIz; simp only [Free.putL, Act.put, List.setIfInBounds_toArray, List.set_cons_zero, List.set_cons_succ]
        dsimp only [Exit.then]
        go_wp2_with fail
        have hz3 := HIZ3.out.size; have hs4 : s < wz.heap.size := by omega
        have hi4 : wv.heap.size < wz.heap.size := by omega
        obtain ⟨W4, hW4⟩ : ∃ W4, W4 = wz := ⟨_, rfl⟩; rw [← hW4] at HIZ3 hs4 hi4 hz3 ⊢; clear hW4; have i1 := (HIZ3.out.cell (p := ⟨wv.heap.size, 1, none⟩) hi3).trans i1; have i3 := (HIZ3.out.cell (p := ⟨wv.heap.size, 3, none⟩) hi3).trans i3; have su := (HIZ3.out.cell (p := ⟨s, 5 + D, none⟩) hs3).trans su; have hS4 := HS3.out.keep (HIZ3.out.block s hs3); have HS4 := Lib.hid hS4; have HM4 := Lib.hid (HM3.out.keep (HIZ3.out.block hm (by omega))); have HK4 := Lib.hid (HK3.out.trans (Kept.all HIZ3.out) (S' := fun j => j = s ∨ j = hm) (fun j _ h => h)); obtain ⟨U, hU⟩ : ∃ U, U = u.getD D 0 := ⟨_, rfl⟩; rw [← hU] at su; have hDI : (D : Int) < 64 := by omega
        clear hS4; refine Free.wp_last (I := fun w' => Below W4.heap.size W4 w') (Gr := fun w1 w2 => Below w1.heap.size w1 w2) (by kernel_rfl) (by simp) (by kernel_rfl) (by kernel_rfl) (Below.refl _ _).drew ?_
        dsimp only [List.dropLast, List.getLast]
        apply Free.sv; intro a w1 hI hp
        · have e0 := hp.sl 0; simp at e0; refine ⟨Free.wn, ?_⟩; clear hp; go_simp; rfl
        apply Free.sv; intro a w1 hI hp
        · have e6 := hp.sl 6; simp at e6; refine ⟨Free.wn, ?_⟩; clear hp; go_simp; rfl
        apply Free.sv; intro a w1 hI hp
        · have e91 := hp.b 1 0; have ki1 := (hI.cell (p := ⟨wv.heap.size, 1, none⟩) hi4).trans i1; refine ⟨Free.wn, ?_⟩; clear hp; go_simp; rfl
        apply Free.sv; intro a w1 hI hp
        · have e0 := hp.sl 0; simp at e0; refine ⟨Free.wn, ?_⟩; clear hp; go_simp; rfl
        apply Free.sv; intro a w1 hI hp
        · have e6 := hp.sl 6; simp at e6; refine ⟨Free.wn, ?_⟩; clear hp; go_simp; rfl
        apply Free.sv; intro a w1 hI hp
        · have e94 := hp.b 4 0; have ki1 := (hI.cell (p := ⟨wv.heap.size, 1, none⟩) hi4).trans i1; refine ⟨Free.wn, ?_⟩; clear hp; go_simp; rfl
        apply Free.sv; intro a w1 hI hp
        · have e93 := hp.b 3 2; refine ⟨Free.wn, ?_⟩; clear hp; go_simp; rfl
        apply Free.sv; intro a w1 hI hp
        · have e96 := hp.b 6 0; refine ⟨Free.wn, ?_⟩; clear hp; go_simp; rfl
        apply Free.sv; intro a w1 hI hp
        · have e97 := hp.b 7 0; have e95 := hp.b 5 2; refine ⟨Free.wn, ?_⟩; clear hp; go_simp; rfl
        apply Free.sv; intro a w1 hI hp
        · have e98 := hp.b 8 0; have ksu := (hI.cell (p := ⟨s, 5 + D, none⟩) hs4).trans su; refine ⟨Free.wn, ?_⟩; clear hp; go_simp; rfl
        apply Free.sv; intro a w1 hI hp
        · have e6 := hp.sl 6; simp at e6; refine ⟨Free.wn, ?_⟩; clear hp; go_simp; rfl
        apply Free.sv; intro a w1 hI hp
        · have e100 := hp.b 10 0; have ki3 := (hI.cell (p := ⟨wv.heap.size, 3, none⟩) hi4).trans i3; refine ⟨Free.wn, ?_⟩; clear hp; go_simp; rfl
        apply Free.sv; intro a w1 hI hp
        · have e99 := hp.b 9 2; have e101 := hp.b 11 0; refine ⟨Free.wn, ?_⟩; clear hp; go_simp; rfl
        apply Free.sv; intro a w1 hI hp
        · have e90 := hp.b 0 12; refine ⟨Free.wn, ?_⟩; clear hp; go_simp; rfl
        apply Free.sv; intro a w1 hI hp
        · have e103 := hp.b 13 0; refine ⟨Free.wn, ?_⟩; clear hp; go_simp; rfl
        apply Free.sv; intro a w1 hI hp
        · have e104 := hp.b 14 0; have e92 := hp.b 2 12; refine ⟨Free.wn, ?_⟩; clear hp; go_simp; rfl
        refine Free.Seq.done (by simp) (fun wz hIz => ?_); simp only [List.reverse_cons, List.reverse_nil, List.nil_append, List.cons_append, Free.All, Free.eqF, forall_eq]
        skip
        simp only [Free.putL, Act.put, List.setIfInBounds_toArray, List.set_cons_zero, List.set_cons_succ]; refine ⟨trivial, ?_⟩; have hS5 := HS4.out.keep (hIz.block s hs4); have hM5 := HM4.out.keep (hIz.block hm (by omega)); have hK5 := HK4.out.trans (Kept.all hIz) (S' := fun j => j = s ∨ j = hm) (fun j _ h => h); have a5 : wz.cell? ⟨s, 5 + D, none⟩ = some (.int .i64 U) := (hIz.cell (p := ⟨s, 5 + D, none⟩) hs4).trans su; have b5 : wz.frozen? ⟨s, 5 + D, none⟩ = false := hS5.free (5 + D); have HS5 := Lib.hid hS5; have HM5 := Lib.hid hM5; have HK5 := Lib.hid hK5; have HU := Lib.hid hU; clear hS5 hM5 hK5 hIz hU
        go_wp2_with fail
        · go_ret
          refine ⟨rfl, HK5.out.setCell (.inl (.inl rfl)) _, ?_, _, by simp, (HM5.out.keep (heap_setCell_other _ _ _ _ (by exact hsm.symm))), by have h9 := HP1.out; simpa only [hos, hep] using h9⟩; have h9 := HS5.out.setUsed D hD64 (k); rw [useU, if_pos ⟨rfl, rfl⟩]; have h8 : max (u.getD ((D : Int)).toNat 0) k = k := by
            rw [Int.toNat_natCast, List.getD_eq_getElem?_getD]; omega
          show StoreAt _ _ _ _ _ _ _ (u.set ((D : Int)).toNat (max (u.getD ((D : Int)).toNat 0) k)) _ _ _ _
          rw [h8, Int.toNat_natCast]; exact h9
        · go_ret
          refine ⟨rfl, HK5.out.setCell (.inl (.inl rfl)) _, ?_, _, by simp, (HM5.out.keep (heap_setCell_other _ _ _ _ (by exact hsm.symm))), by have h9 := HP1.out; simpa only [hos, hep] using h9⟩; have h9 := HS5.out.setUsed D hD64 (u[D]?.getD 0); rw [useU, if_pos ⟨rfl, rfl⟩]; have h8 : max (u.getD ((D : Int)).toNat 0) k = u[D]?.getD 0 := by
            rw [Int.toNat_natCast, List.getD_eq_getElem?_getD]; omega
          show StoreAt _ _ _ _ _ _ _ (u.set ((D : Int)).toNat (max (u.getD ((D : Int)).toNat 0) k)) _ _ _ _
          rw [h8, Int.toNat_natCast]; exact h9
      · have he1 : (e == ep) = false := by simpa using hep
        refine Free.wp_seq (I := fun w' => Below W3.heap.size W3 w') (Gr := fun w1 w2 => Below w1.heap.size w1 w2) (by kernel_rfl) (by kernel_rfl) (Below.refl _ _).drew ?_
        apply Free.sv; intro a w1 hI hp
        · have e6 := hp.sl 6; simp at e6; refine ⟨Free.wn, ?_⟩; clear hp; go_simp; rfl
        apply Free.sv; intro a w1 hI hp
        · have e74 := hp.b 0 0; have ki0 := (hI.cell (p := ⟨wv.heap.size, 0, none⟩) hi3).trans i0; refine ⟨Free.wn, ?_⟩; clear hp; go_simp; rfl
        apply Free.sv; intro a w1 hI hp
        · have e0 := hp.sl 0; simp at e0; refine ⟨Free.wn, ?_⟩; clear hp; go_simp; rfl
        apply Free.sv; intro a w1 hI hp
        · have e76 := hp.b 2 0; refine ⟨Free.wn, ?_⟩; clear hp; go_simp; rfl
        apply Free.sv; intro a w1 hI hp
        · have e77 := hp.b 3 0; refine ⟨Free.wn, ?_⟩; clear hp; go_simp; rfl
        apply Free.sv; intro a w1 hI hp
        · have e78 := hp.b 4 0; have ks0 := (hI.cell (p := ⟨s, 0, none⟩) hs3).trans s0; refine ⟨Free.wn, ?_⟩; clear hp; go_simp; rfl
        apply Free.sv; intro a w1 hI hp
        · have e75 := hp.b 1 4; have e79 := hp.b 5 0; refine ⟨Free.wn, ?_⟩; clear hp; go_simp; rfl
        apply Free.sv; intro a w1 hI hp
        · have e80 := hp.b 6 0; refine ⟨Free.wn, ?_⟩; clear hp; go_simp; rfl
        apply Free.sv; intro a w1 hI hp
        · have e81 := hp.b 7 0; have e6 := hp.sl 6; simp at e6; refine ⟨hp.wt e81, ?_⟩; clear hp; go_simp; rfl
        apply Free.sv; intro a w1 hI hp
        · have e81 := hp.b 7 1; have e82 := hp.b 8 0; have ki2 := (hI.cell (p := ⟨wv.heap.size, 2, none⟩) hi3).trans i2; refine ⟨hp.wt e81, ?_⟩; clear hp; go_simp; rfl
        apply Free.sv; intro a w1 hI hp
        · have e81 := hp.b 7 2; have e0 := hp.sl 0; simp at e0; refine ⟨hp.wt e81, ?_⟩; clear hp; go_simp; rfl
        apply Free.sv; intro a w1 hI hp
        · have e81 := hp.b 7 3; have e84 := hp.b 10 0; refine ⟨hp.wt e81, ?_⟩; clear hp; go_simp; rfl
        apply Free.sv; intro a w1 hI hp
        · have e81 := hp.b 7 4; have e85 := hp.b 11 0; refine ⟨hp.wt e81, ?_⟩; clear hp; go_simp; rfl
        apply Free.sv; intro a w1 hI hp
        · have e81 := hp.b 7 5; have e86 := hp.b 12 0; have ks4 := (hI.cell (p := ⟨s, 4, none⟩) hs3).trans s4; refine ⟨hp.wt e81, ?_⟩; clear hp; go_simp; rfl
        apply Free.sv; intro a w1 hI hp
        · have e81 := hp.b 7 6; have e83 := hp.b 9 4; have e87 := hp.b 13 0; refine ⟨hp.wt e81, ?_⟩; clear hp; go_simp; rfl
        apply Free.sv; intro a w1 hI hp
        · have e81 := hp.b 7 7; have e88 := hp.b 14 0; refine ⟨Free.wn, ?_⟩; clear hp; go_simp; rfl
        refine Free.Seq.done (by simp) (fun wz hIz => ?_); simp only [List.reverse_cons, List.reverse_nil, List.nil_append, List.cons_append, Free.All, Free.eqF, forall_eq]; have HIZ3 := Lib.hid hIz; clear hIz; simp only [Free.putL, Act.put, List.setIfInBounds_toArray, List.set_cons_zero, List.set_cons_succ]
        dsimp only [Exit.then]
        go_wp2_with fail
        go_ret
        refine ⟨rfl, HK3.out.trans (Kept.all HIZ3.out) (S' := fun j => j = s ∨ j = hm) (fun j _ h => h), ?_, _, by simp, HM3.out.keep (HIZ3.out.block hm (by omega)), by have h9 := HP1.out; simpa only [hos] using h9⟩; rw [useU, if_neg (fun h => hep h.2)]; exact HS3.out.keep (HIZ3.out.block s hs3)
    · have ho1 : (o == self) = false := by simpa using hos
      refine Free.wp_seq (I := fun w' => Below W3.heap.size W3 w') (Gr := fun w1 w2 => Below w1.heap.size w1 w2) (by kernel_rfl) (by kernel_rfl) (Below.refl _ _).drew ?_
      apply Free.sv; intro a w1 hI hp
      · have e6 := hp.sl 6; simp at e6; refine ⟨Free.wn, ?_⟩; clear hp; go_simp; rfl
      apply Free.sv; intro a w1 hI hp
      · have e74 := hp.b 0 0; have ki0 := (hI.cell (p := ⟨wv.heap.size, 0, none⟩) hi3).trans i0; refine ⟨Free.wn, ?_⟩; clear hp; go_simp; rfl
      apply Free.sv; intro a w1 hI hp
      · have e0 := hp.sl 0; simp at e0; refine ⟨Free.wn, ?_⟩; clear hp; go_simp; rfl
      apply Free.sv; intro a w1 hI hp
      · have e76 := hp.b 2 0; refine ⟨Free.wn, ?_⟩; clear hp; go_simp; rfl
      apply Free.sv; intro a w1 hI hp
      · have e77 := hp.b 3 0; refine ⟨Free.wn, ?_⟩; clear hp; go_simp; rfl
      apply Free.sv; intro a w1 hI hp
      · have e78 := hp.b 4 0; have ks0 := (hI.cell (p := ⟨s, 0, none⟩) hs3).trans s0; refine ⟨Free.wn, ?_⟩; clear hp; go_simp; rfl
      apply Free.sv; intro a w1 hI hp
      · have e75 := hp.b 1 4; have e79 := hp.b 5 0; refine ⟨Free.wn, ?_⟩; clear hp; go_simp; rfl
      apply Free.sv; intro a w1 hI hp
      · have e80 := hp.b 6 0; refine ⟨Free.wn, ?_⟩; clear hp; go_simp; rfl
      refine Free.sp 7 0 ?_; refine Free.sp 7 1 ?_; refine Free.sp 7 2 ?_; refine Free.sp 7 3 ?_; refine Free.sp 7 4 ?_; refine Free.sp 7 5 ?_; refine Free.sp 7 6 ?_
      apply Free.sv; intro a w1 hI hp
      · have e81 := hp.b 7 7; have e88 := hp.b 14 0; refine ⟨Free.wn, ?_⟩; clear hp; go_simp; rfl
      refine Free.Seq.done (by simp) (fun wz hIz => ?_); simp only [List.reverse_cons, List.reverse_nil, List.nil_append, List.cons_append, Free.All, Free.eqF, forall_eq]; have HIZ3 := Lib.hid hIz; clear hIz; simp only [Free.putL, Act.put, List.setIfInBounds_toArray, List.set_cons_zero, List.set_cons_succ]
      dsimp only [Exit.then]
      go_wp2_with fail
      go_ret
      refine ⟨rfl, HK3.out.trans (Kept.all HIZ3.out) (S' := fun j => j = s ∨ j = hm) (fun j _ h => h), ?_, _, by simp, HM3.out.keep (HIZ3.out.block hm (by omega)), HP1.out⟩; rw [useU, if_neg (fun h => hos h.1)]; exact HS3.out.keep (HIZ3.out.block s hs3)
  · go_wp2_with fail
    go_ret
    exact ⟨rfl, Kept.all HB1.out, fun h => absurd h hc⟩
end Go.Proofs.Ytcnlgcmooegfkaa
