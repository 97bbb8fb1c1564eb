/-
  LineWhole.
-/
import Derived.Test.YtgiboekjjnmnnaaLineState
import Derived.Test.YtgiboekjjnmnnaaCells
namespace Go.Proofs.Ytgiboekjjnmnnaa
open Go.RowKit

set_option maxHeartbeats 4000000 in
set_option maxRecDepth 100000 in
theorem whole_bad (dl : Int) (h : dl < 0 ∨ 64 < dl) (A : Option Addr) (n c : Nat) (w : World) :
    Calls Try.prog 3 #[.int .i64 dl, .slice A n c] w fun e w' => e = .returned (.bool true) ∧ Below w.heap.size w w' := by
  have N := new_bad w dl h
  have HN := Lib.hid N
  clear N
  go_enter Try.func3, Try.ntmps3
  by_cases h0 : dl < 0
  · have t1 : decide (dl < 0) = true := by simp; omega
    clear h
    go_wp2_with (first
      | (go_at_call 7; refine HN.out.mono ?_; rintro e w' ⟨rfl, rfl⟩)
      | (go_at_call 8; refine (awake_any _).mono ?_; rintro e w' ⟨rfl, hb2⟩))
    go_ret
    exact ⟨rfl, hb2⟩
  · have t1 : decide (dl < 0) = false := by simp; omega
    have t2 : decide (64 < dl) = true := by simp; omega
    clear h
    go_wp2_with (first
      | (go_at_call 7; refine HN.out.mono ?_; rintro e w' ⟨rfl, rfl⟩)
      | (go_at_call 8; refine (awake_any _).mono ?_; rintro e w' ⟨rfl, hb2⟩))
    go_ret
    exact ⟨rfl, hb2⟩

set_option maxHeartbeats 4000000 in
set_option maxRecDepth 100000 in
theorem whole_good (dn : Nat) (hd : dn ≤ 64) (A : Option Addr) (n c : Nat) (ls : List (List UInt8)) (w : World) (hR : RdL w A n c ls) :
    Calls Try.prog 3 #[.int .i64 dn, .slice A n c] w fun e w' => e = .returned (.bool true) ∧ Below w.heap.size w w' := by
  have hlen := Lib.hid hR.len
  have HR := Lib.hid hR
  clear hR
  go_enter Try.func3, Try.ntmps3
  go_wp2_with (go_at_call 7; refine (new_ok _ (dn : Int) (by omega) (by omega)).mono ?_; rintro e w1 ⟨rfl, H1, hb1⟩)
  have HW0 := Lib.hid (show Whole w (w1.alloc (.cells #[] 3)) w.heap.size dn 0 0 (.slice none 0 0) (.slice none 0 0) (.slice none 0 0) (.slice none 0 0) (.slice (some ⟨w1.heap.size, 0, none⟩) 0 0) [] [] 0 [] 0 [] 0 [] from
    ⟨H1.below ((Below.refl _ _).alloc (Nat.le_refl _) _), World.ownsRow_nil _ _ _ _, World.ownsRow_nil _ _ _ _, own_empty w1 w.heap.size _ _ 1 rfl hb1.size, fun _ e => (by cases e), fun _ e => (by cases e), fun _ e => (by cases e), fun _ _ e => (by cases e), hb1.alloc hb1.size _⟩)
  clear H1 hb1
  go_loopw [7, 8, 9, 10] (fun U V E i wr => ∃ (k np : Nat) (P D : Value), k ≤ n ∧ k ≤ 60 ∧ i = .int .i64 k ∧ np ≤ 65536 ∧ (ls.take k).flatten.length ≤ k * 65536 ∧
    Whole w wr w.heap.size dn k np P D U V E ((ls.take k).drop (k - dn)).flatten (Lin.dues dn (k - dn) ((ls.take k).drop (k - dn))) (ls.take k).flatten.length (ls.take k).flatten (ls.take (k - dn)).flatten.length (ls.take (k - dn)).flatten k (Lin.ends ls k)) (fun _ _ _ i _ => n - (intOf i).toNat)
  case atStart => exact ⟨0, 0, _, _, Nat.zero_le _, by omega, rfl, by omega, by simp, by simpa [Lin.dues, Lin.ends] using HW0.out⟩
  case round =>
    obtain ⟨k, np, P, D, hk, hk6, rfl, hnp, htot, HW⟩ := hrel
    by_cases hkn : k < n
    · by_cases hk60 : k < 60
      · obtain ⟨b, off, x, A', n', c', rfl, hblt, hx, hcell, hRx⟩ := HR.out.at' hkn
        have hcell' := (HW.bel.cell (p := ⟨b, off + k, none⟩) hblt).trans hcell
        have HX := Lib.hid hx
        have HRx := Lib.hid (hRx.below HW.bel)
        have HR0 := Lib.hid hRx
        have HWW := Lib.hid HW
        have hn'big := hRx.big
        have hxl := Lib.hid hRx.len
        have hPU := Lib.hid (Lin.put_seg ls dn k x hx)
        obtain ⟨tk, q1, q2, q3, q4, q5, q6⟩ := Lin.step ls dn k x hx
        have Q1 := Lib.hid q1
        have Q2 := Lib.hid q2
        have Q3 := Lib.hid q3
        have Q4 := Lib.hid q4
        have Q5 := Lib.hid q5
        have Q6 := Lib.hid q6
        have hpl := Lib.hid HW.ln.plen
        have hI1 := Lib.hid (show (ls.take (k + 1)).flatten = (ls.take k).flatten ++ x from by rw [List.take_add_one, hx]; simp)
        clear HW hcell hx hRx q1 q2 q3 q4 q5 q6
        obtain ⟨I, hI⟩ : ∃ I, I = (ls.take k).flatten := ⟨_, rfl⟩
        have HI := Lib.hid hI
        rw [← hI] at HWW htot hI1
        clear hI
        by_cases hfull : 65536 < np + n'
        · go_wp2_with fail
          refine (put_full wr HWW.out.ln (by omega) hfull).mono ?_
          rintro e w' ⟨rfl, rfl⟩
          have hbr : b < wr.heap.size := Nat.lt_of_lt_of_le hblt HWW.out.bel.size
          have hw7 : IntKind.i64.wrap ((n' : Int) + (np : Int)) = (n' : Int) + (np : Int) := IntWalk.i64_in _ ⟨by omega, by omega⟩
          have t7 : decide ((65536 : Int) < (n' : Int) + (np : Int)) = true := by simp; omega
          go_wp2_with fail
          refine Free.wp_seq (I := fun w' => Below wr.heap.size wr w') (Gr := fun w1 w2 => Below w1.heap.size w1 w2) (by kernel_rfl) (by kernel_rfl) (Below.refl _ _).drew ?_
          refine Free.Seq.val ?_ (fun _ => Below.refl _ _) (fun a w1 hI hp => ?_) ?_
          rotate_left
          · have e1 := hp.slotV 1 (by kernel_rfl) rfl; simp at e1
            refine ⟨Free.want_none rfl, ?_⟩
            clear hp
            go_simp
            rfl
          refine Free.Seq.val ?_ (fun _ => Below.refl _ _) (fun a w1 hI hp => ?_) ?_
          rotate_left
          · have e10 := hp.slotV 10 (by kernel_rfl) rfl; simp at e10
            refine ⟨Free.want_none rfl, ?_⟩
            clear hp
            go_simp
            rfl
          refine Free.Seq.val ?_ (fun _ => Below.refl _ _) (fun a w1 hI hp => ?_) ?_
          rotate_left
          · have e55 := hp.backV 0 1 rfl rfl rfl rfl rfl; have e56 := hp.backV 1 0 rfl rfl rfl rfl rfl
            refine ⟨Free.want_none rfl, ?_⟩
            clear hp
            go_simp
            rfl
          refine Free.Seq.val ?_ (fun _ => Below.refl _ _) (fun a w1 hI hp => ?_) ?_
          rotate_left
          · have e57 := hp.backV 2 0 rfl rfl rfl rfl rfl
            have k9 := (hI.cell (p := ⟨b, off + k, none⟩) hbr).trans hcell'
            refine ⟨Free.want_none rfl, ?_⟩
            clear hp
            go_simp
            rfl
          refine Free.Seq.val ?_ (fun _ => Below.refl _ _) (fun a w1 hI hp => ?_) ?_
          rotate_left
          · have e58 := hp.backV 3 0 rfl rfl rfl rfl rfl
            refine ⟨Free.want_none rfl, ?_⟩
            clear hp
            go_simp
            rfl
          refine Free.Seq.val ?_ (fun _ => Below.refl _ _) (fun a w1 hI hp => ?_) ?_
          rotate_left
          · have e5 := hp.slotV 5 (by kernel_rfl) rfl; simp at e5
            refine ⟨Free.want_none rfl, ?_⟩
            clear hp
            go_simp
            rfl
          refine Free.Seq.call (T := Free.eqF (.int .i64 (np : Int))) (fun _ _ _ h _ => h) (fun a w1 hI hp => ?_) ?_
          · have e60 := hp.backV 5 0 rfl rfl rfl rfl rfl
            refine ⟨Free.want_none rfl, 10, #[.pointer (some ⟨w.heap.size, 0, none⟩)], ?_, ?_⟩
            · clear hp
              go_simp
            · refine (len_any _ (HWW.out.ln.below hI)).mono ?_
              rintro e w' ⟨rfl, rfl⟩
              exact ⟨_, rfl, rfl, Below.refl _ _, hI⟩
          refine Free.Seq.val ?_ (fun _ => Below.refl _ _) (fun a w1 hI hp => ?_) ?_
          rotate_left
          · have e59 := hp.backV 4 2 rfl rfl rfl rfl rfl; have e61 := hp.backV 6 0 rfl rfl rfl rfl rfl
            refine ⟨Free.want_none rfl, ?_⟩
            clear hp
            go_simp
            rfl
          refine Free.Seq.val ?_ (fun _ => Below.refl _ _) (fun a w1 hI hp => ?_) ?_
          rotate_left
          · have e62 := hp.backV 7 0 rfl rfl rfl rfl rfl
            refine ⟨Free.want_none rfl, ?_⟩
            clear hp
            go_simp
            rfl
          refine Free.Seq.val ?_ (fun _ => Below.refl _ _) (fun a w1 hI hp => ?_) ?_
          rotate_left
          · have e63 := hp.backV 8 0 rfl rfl rfl rfl rfl
            refine ⟨Free.want_none rfl, ?_⟩
            clear hp
            go_simp
            rfl
          refine Free.Seq.call (T := Free.eqF (.bool true)) (fun _ _ _ h _ => h) (fun a w1 hI hp => ?_) ?_
          · have e64 := hp.backV 9 0 rfl rfl rfl rfl rfl
            refine ⟨hp.want rfl rfl rfl e64, 8, #[], ?_, ?_⟩
            · clear hp
              go_simp
            · refine (awake_any _).mono ?_
              rintro e w' ⟨rfl, hb⟩
              exact ⟨_, rfl, rfl, hb, hI.trans (hb.mono hI.size)⟩
          refine Free.Seq.val ?_ (fun _ => Below.refl _ _) (fun a w1 hI hp => ?_) ?_
          rotate_left
          · have e64 := hp.backV 9 1 rfl rfl rfl rfl rfl; have e65 := hp.backV 10 0 rfl rfl rfl rfl rfl
            refine ⟨Free.want_none rfl, ?_⟩
            clear hp
            go_simp
            rfl
          refine Free.Seq.val ?_ (fun _ => Below.refl _ _) (fun a w1 hI hp => ?_) ?_
          rotate_left
          · have e66 := hp.backV 11 0 rfl rfl rfl rfl rfl
            refine ⟨Free.want_none rfl, ?_⟩
            clear hp
            go_simp
            rfl
          refine Free.Seq.done (by simp) (fun wz hIz => ?_)
          simp only [List.reverse_cons, List.reverse_nil, List.nil_append, List.cons_append, Free.All, Free.eqF, forall_eq]
          skip
          simp only [Free.putL, Act.put, List.setIfInBounds_toArray, List.set_cons_zero, List.set_cons_succ]
          go_wp2
          go_ret
          exact ⟨rfl, HWW.out.bel.trans (hIz.mono HWW.out.bel.size)⟩
        · obtain ⟨N, hN⟩ : ∃ N, I.length + n' = N := ⟨_, rfl⟩
          go_wp2_with fail
          refine (put_any wr HWW.out.ln HWW.out.bel.size (by omega) (by omega) (by omega) (by omega) HRx.out (by omega)).mono ?_
          rintro e w2 ⟨P2, D2, rfl, H2, k2, aP, aD⟩
          have hPU2 := hPU.out.2
          rw [hxl.out] at hPU2
          rw [hPU.out.1, hPU2] at H2
          have HW2 := Lib.hid (HWW.out.line k2 H2 aP aD)
          have hcell2 := (HW2.out.bel.cell (p := ⟨b, off + k, none⟩) hblt).trans ((HWW.out.bel.cell (p := ⟨b, off + k, none⟩) hblt).symm.trans hcell')
          have HRx2 := Lib.hid (HR0.out.below HW2.out.bel)
          have hends := Lib.hid (show is (Lin.ends ls (k + 1)) = is (Lin.ends ls k) ++ [.int .i64 (N : Int)] by rw [Lin.ends_snoc, hI1.out, List.length_append, hxl.out, hN]; simp [is])
          clear H2 k2 aP aD hPU2 hcell'
          go_wp2_with (first
            | (at_builtin; refine wpList_app _ rfl elemB (.tmp 67) (.tmp 71) rfl (v := u7) rfl HW2.out.hU rfl HRx2.out.src N hN (by omega) HW2.out.bel.size ?_; intro A3 c3 w3 hown3 hg3 hat3; have HW3 := Lib.hid (HW2.out.appU (inn' := I ++ x) hg3 (by rw [bs_append]; exact hown3) (Anew.of hat3)); clear hown3 hg3 hat3)
            | (at_builtin; refine wpList_app _ rfl elemI (.tmp 73) (.tmp 76) rfl (v := u9) rfl (HW3.out.hE.alloc _) rfl (Src.new' w3 _ rfl [_] _ 1 1 rfl (by simp [Value.oneCell'])) (k + 1) rfl (by omega) (by have := HW3.out.bel.size; simp; omega) ?_; intro A4 c4 w4 hown4 hg4 hat4; have HW4 := Lib.hid ((HW3.out.grow ((Below.refl _ _).alloc (Nat.le_refl _) (.cells #[.int .i64 (N : Int)] 3))).appE (en' := Lin.ends ls (k + 1)) hg4 (by rw [hends.out]; exact hown4) (Anew.of hat4)); clear hown4 hg4 hat4))
          have hpl4 := HW4.out.ln.plen
          refine (take_any _ HW4.out.ln (by omega) tk (by rw [← hpl4]; exact Q1.out) Q2.out Q3.out).mono ?_
          rintro e w5 ⟨A5, c5, P5, D5, rfl, ho5, H5, k5, aP5, aD5⟩
          rw [Q5.out, Q6.out] at H5
          have HW5 := Lib.hid (HW4.out.line (k5.mono (fun _ _ e => .inl e)) H5 aP5 aD5)
          obtain ⟨R, hRR⟩ : ∃ R, R = ((ls.take (k + 1)).drop (k - dn)).flatten.take tk := ⟨_, rfl⟩
          have hRl : R.length = tk := by rw [hRR, List.length_take]; have := Q1.out; omega
          rw [← hRR] at ho5
          have hO1 := Q4.out
          rw [← hRR] at hO1
          have hRd := Lib.hid (ho5.rd hRl (by have := Q1.out; omega))
          have hOI : (ls.take (k - dn)).flatten.length ≤ I.length := by
            have := congrArg List.length (Lin.seg_all ls (k - dn) k)
            rw [Nat.max_eq_right (by omega), ← HI.out, List.length_append] at this
            omega
          have htk : tk ≤ np + n' := by have := Q1.out; omega
          obtain ⟨O, hO⟩ : ∃ O, O = (ls.take (k - dn)).flatten := ⟨_, rfl⟩
          rw [← hO] at hO1 hOI
          have HW5' := HW5.out
          rw [← hO] at HW5'
          have HW5'' := Lib.hid HW5'
          obtain ⟨M, hM⟩ : ∃ M, O.length + tk = M := ⟨_, rfl⟩
          have HO1 := Lib.hid hO1
          clear H5 k5 aP5 aD5 ho5 hRR hO1 hO HW5' hpl4
          rename_i hKK
          refine hKK _ _ ?_
          refine wpList_app _ rfl elemB (.tmp 78) (.tmp 80) rfl (v := u8) rfl HW5''.out.hV rfl hRd.out.src M hM (by omega) HW5''.out.bel.size ?_
          intro A6 c6 w6 hown6 hg6 hat6
          have HW6 := Lib.hid (HW5''.out.appV (out' := (ls.take (k + 1 - dn)).flatten) hg6 (by rw [← HO1.out, bs_append]; exact hown6) (Anew.of hat6))
          clear hown6 hg6 hat6
          have hrV : Rd w6 A6 M c6 (ls.take (k + 1 - dn)).flatten := (OwnB.of HW6.out.hV (ls.take (k + 1 - dn)).flatten rfl).rd (by rw [← HO1.out, List.length_append, hRl, hM]) (by omega)
          have hrU : Rd w6 A3 N c3 (I ++ x) := (OwnB.of HW6.out.hU (I ++ x) rfl).rd (by rw [List.length_append, hxl.out, hN]) (by omega)
          have hUV := Lin.seg_all ls (k + 1 - dn) (k + 1)
          rw [Nat.max_eq_right (by omega), hI1.out] at hUV
          have hMN : M ≤ N := by
            have := congrArg List.length hUV
            rw [List.length_append, List.length_append, hrV.len, hxl.out, hN] at this
            omega
          have hrT : Rd w6 A3 M c3 (ls.take (k + 1 - dn)).flatten := by
            have := hrU.take hMN
            rwa [← hUV, List.take_left' hrV.len] at this
          have hNc := hrU.cap
          have hMc : M ≤ c3 := by omega
          have HrV := Lib.hid hrV
          have HrT := Lib.hid hrT
          clear hrV hrU hrT hUV
          by_cases hdk : dn ≤ k
          · obtain ⟨a, ha⟩ : ∃ a, a = k - dn := ⟨_, rfl⟩
            have hka : (k : Int) - (dn : Int) = (a : Int) := by omega
            have hak : a < k + 1 := by omega
            obtain ⟨gE, capE, hvE, hbE, hltE⟩ := HW6.out.hE.form (by omega)
            obtain rfl : A4 = some ⟨gE, 0, none⟩ := by injection hvE
            obtain ⟨W, hW⟩ : ∃ W, W = (ls.take (k + 1 - dn)).flatten.length := ⟨_, rfl⟩
            have hcE : w6.cell? ⟨gE, a, none⟩ = some (.int .i64 (W : Int)) := by
              have h1 := Lin.ends_at ls (k + 1) a hak
              have h2 := HW6.out.hE.cells (g := gE) rfl a (.int .i64 (W : Int)) (by simp only [is, List.getElem?_map, h1, hW]; rw [show k + 1 - dn = a + 1 by omega]; rfl)
              rw [add_none, Nat.zero_add] at h2
              exact h2
            have hMW : W = M := by rw [hW, ← hM, ← HO1.out, List.length_append, hRl]
            subst hMW
            have HWl := Lib.hid hW
            clear hvE hW ha hM
            go_wp2_with fail
            refine Free.wp_seq (I := fun w' => Below w6.heap.size w6 w') (Gr := fun w1 w2 => Below w1.heap.size w1 w2) (by kernel_rfl) (by kernel_rfl) (Below.refl _ _).drew ?_
            refine Free.Seq.val ?_ (fun _ => Below.refl _ _) (fun a w1 hI hp => ?_) ?_
            rotate_left
            · have e8 := hp.slotV 8 (by kernel_rfl) rfl; simp at e8
              refine ⟨Free.want_none rfl, ?_⟩
              clear hp
              go_simp
              rfl
            refine Free.Seq.val ?_ (fun _ => Below.refl _ _) (fun a w1 hI hp => ?_) ?_
            rotate_left
            · have e91 := hp.backV 0 0 rfl rfl rfl rfl rfl
              refine ⟨Free.want_none rfl, ?_⟩
              clear hp
              go_simp
              rfl
            refine Free.Seq.val ?_ (fun _ => Below.refl _ _) (fun a w1 hI hp => ?_) ?_
            rotate_left
            · have e11 := hp.slotV 11 (by kernel_rfl) rfl; simp at e11
              refine ⟨Free.want_none rfl, ?_⟩
              clear hp
              go_simp
              rfl
            refine Free.Seq.val ?_ (fun _ => Below.refl _ _) (fun a w1 hI hp => ?_) ?_
            rotate_left
            · have e92 := hp.backV 1 1 rfl rfl rfl rfl rfl; have e93 := hp.backV 2 0 rfl rfl rfl rfl rfl
              refine ⟨Free.want_none rfl, ?_⟩
              clear hp
              go_simp
              rfl
            refine Free.Seq.val ?_ (fun _ => Below.refl _ _) (fun a w1 hI hp => ?_) ?_
            rotate_left
            · have e94 := hp.backV 3 0 rfl rfl rfl rfl rfl
              refine ⟨Free.want_none rfl, ?_⟩
              clear hp
              go_simp
              rfl
            refine Free.Seq.val ?_ (fun _ => Below.refl _ _) (fun a w1 hI hp => ?_) ?_
            rotate_left
            · have e95 := hp.backV 4 0 rfl rfl rfl rfl rfl; have e8 := hp.slotV 8 (by kernel_rfl) rfl; simp at e8
              refine ⟨hp.want rfl rfl rfl e95, ?_⟩
              clear hp
              go_simp
              rfl
            refine Free.Seq.val ?_ (fun _ => Below.refl _ _) (fun a w1 hI hp => ?_) ?_
            rotate_left
            · have e95 := hp.backV 4 1 rfl rfl rfl rfl rfl; have e96 := hp.backV 5 0 rfl rfl rfl rfl rfl
              have hc := (HrV.out.below hI).string (P := Try.prog) 28 9 5 Try.underlying28 Try.underlying5 Try.underlying9
              refine ⟨hp.want rfl rfl rfl e95, ?_⟩
              clear hp
              go_simp
              rfl
            refine Free.Seq.val ?_ (fun _ => Below.refl _ _) (fun a w1 hI hp => ?_) ?_
            rotate_left
            · have e95 := hp.backV 4 2 rfl rfl rfl rfl rfl; have e7 := hp.slotV 7 (by kernel_rfl) rfl; simp at e7
              refine ⟨hp.want rfl rfl rfl e95, ?_⟩
              clear hp
              go_simp
              rfl
            refine Free.Seq.val ?_ (fun _ => Below.refl _ _) (fun a w1 hI hp => ?_) ?_
            rotate_left
            · have e95 := hp.backV 4 3 rfl rfl rfl rfl rfl; have e11 := hp.slotV 11 (by kernel_rfl) rfl; simp at e11
              refine ⟨hp.want rfl rfl rfl e95, ?_⟩
              clear hp
              go_simp
              rfl
            refine Free.Seq.val ?_ (fun _ => Below.refl _ _) (fun a w1 hI hp => ?_) ?_
            rotate_left
            · have e95 := hp.backV 4 4 rfl rfl rfl rfl rfl; have e98 := hp.backV 7 1 rfl rfl rfl rfl rfl; have e99 := hp.backV 8 0 rfl rfl rfl rfl rfl
              refine ⟨hp.want rfl rfl rfl e95, ?_⟩
              clear hp
              go_simp
              rfl
            refine Free.Seq.val ?_ (fun _ => Below.refl _ _) (fun a w1 hI hp => ?_) ?_
            rotate_left
            · have e95 := hp.backV 4 5 rfl rfl rfl rfl rfl; have e100 := hp.backV 9 0 rfl rfl rfl rfl rfl
              have hc := (HrT.out.below hI).string (P := Try.prog) 28 9 5 Try.underlying28 Try.underlying5 Try.underlying9
              refine ⟨hp.want rfl rfl rfl e95, ?_⟩
              clear hp
              go_simp
              rfl
            refine Free.Seq.val ?_ (fun _ => Below.refl _ _) (fun a w1 hI hp => ?_) ?_
            rotate_left
            · have e95 := hp.backV 4 6 rfl rfl rfl rfl rfl; have e97 := hp.backV 6 4 rfl rfl rfl rfl rfl; have e101 := hp.backV 10 0 rfl rfl rfl rfl rfl
              refine ⟨hp.want rfl rfl rfl e95, ?_⟩
              clear hp
              go_simp
              rfl
            refine Free.Seq.val ?_ (fun _ => Below.refl _ _) (fun a w1 hI hp => ?_) ?_
            rotate_left
            · have e95 := hp.backV 4 7 rfl rfl rfl rfl rfl; have e102 := hp.backV 11 0 rfl rfl rfl rfl rfl
              refine ⟨Free.want_none rfl, ?_⟩
              clear hp
              go_simp
              rfl
            refine Free.Seq.done (by simp) (fun wz hIz => ?_)
            simp only [List.reverse_cons, List.reverse_nil, List.nil_append, List.cons_append, Free.All, Free.eqF, forall_eq]
            skip
            simp only [Free.putL, Act.put, List.setIfInBounds_toArray, List.set_cons_zero, List.set_cons_succ]
            go_wp2_with fail
            have HW7 := Lib.hid (HW6.out.grow hIz)
            refine (tick_any _ HW7.out.ln (by omega) (by omega)).mono ?_
            rintro e w8 ⟨rfl, H8, k8⟩
            have HW8 := Lib.hid (HW7.out.line (k8.mono (fun _ _ e => .inl e)) H8 (Anew.refl _ _) (Anew.refl _ _))
            clear H8 k8 hIz
            go_wp2
            go_roundw
            case rel =>
              refine ⟨k + 1, np + n' - tk, P5, D5, by omega, by omega, by go_num, by omega, by rw [hI1.out, List.length_append, hxl.out]; omega, ?_⟩
              rw [hI1.out, List.length_append, hxl.out, hN, ← HWl.out]
              exact HW8.out
            case measure =>
              simp [intOf]
              omega
          · have hW : 0 = (ls.take (k + 1 - dn)).flatten.length := by rw [show k + 1 - dn = 0 by omega]; rfl
            have hMW : 0 = M := by rw [hW, ← hM, ← HO1.out, List.length_append, hRl]
            obtain rfl : M = 0 := hMW.symm
            have HWl := Lib.hid hW
            clear hW hM hMW
            go_wp2_with fail
            refine Free.wp_seq (I := fun w' => Below w6.heap.size w6 w') (Gr := fun w1 w2 => Below w1.heap.size w1 w2) (by kernel_rfl) (by kernel_rfl) (Below.refl _ _).drew ?_
            refine Free.Seq.val ?_ (fun _ => Below.refl _ _) (fun a w1 hI hp => ?_) ?_
            rotate_left
            · have e8 := hp.slotV 8 (by kernel_rfl) rfl; simp at e8
              refine ⟨Free.want_none rfl, ?_⟩
              clear hp
              go_simp
              rfl
            refine Free.Seq.val ?_ (fun _ => Below.refl _ _) (fun a w1 hI hp => ?_) ?_
            rotate_left
            · have e91 := hp.backV 0 0 rfl rfl rfl rfl rfl
              refine ⟨Free.want_none rfl, ?_⟩
              clear hp
              go_simp
              rfl
            refine Free.Seq.val ?_ (fun _ => Below.refl _ _) (fun a w1 hI hp => ?_) ?_
            rotate_left
            · have e11 := hp.slotV 11 (by kernel_rfl) rfl; simp at e11
              refine ⟨Free.want_none rfl, ?_⟩
              clear hp
              go_simp
              rfl
            refine Free.Seq.val ?_ (fun _ => Below.refl _ _) (fun a w1 hI hp => ?_) ?_
            rotate_left
            · have e92 := hp.backV 1 1 rfl rfl rfl rfl rfl; have e93 := hp.backV 2 0 rfl rfl rfl rfl rfl
              refine ⟨Free.want_none rfl, ?_⟩
              clear hp
              go_simp
              rfl
            refine Free.Seq.val ?_ (fun _ => Below.refl _ _) (fun a w1 hI hp => ?_) ?_
            rotate_left
            · have e94 := hp.backV 3 0 rfl rfl rfl rfl rfl
              refine ⟨Free.want_none rfl, ?_⟩
              clear hp
              go_simp
              rfl
            refine Free.Seq.val ?_ (fun _ => Below.refl _ _) (fun a w1 hI hp => ?_) ?_
            rotate_left
            · have e95 := hp.backV 4 0 rfl rfl rfl rfl rfl; have e8 := hp.slotV 8 (by kernel_rfl) rfl; simp at e8
              refine ⟨hp.want rfl rfl rfl e95, ?_⟩
              clear hp
              go_simp
              rfl
            refine Free.Seq.val ?_ (fun _ => Below.refl _ _) (fun a w1 hI hp => ?_) ?_
            rotate_left
            · have e95 := hp.backV 4 1 rfl rfl rfl rfl rfl; have e96 := hp.backV 5 0 rfl rfl rfl rfl rfl
              have hc := (HrV.out.below hI).string (P := Try.prog) 28 9 5 Try.underlying28 Try.underlying5 Try.underlying9
              refine ⟨hp.want rfl rfl rfl e95, ?_⟩
              clear hp
              go_simp
              rfl
            refine Free.Seq.val ?_ (fun _ => Below.refl _ _) (fun a w1 hI hp => ?_) ?_
            rotate_left
            · have e95 := hp.backV 4 2 rfl rfl rfl rfl rfl; have e7 := hp.slotV 7 (by kernel_rfl) rfl; simp at e7
              refine ⟨hp.want rfl rfl rfl e95, ?_⟩
              clear hp
              go_simp
              rfl
            refine Free.Seq.val ?_ (fun _ => Below.refl _ _) (fun a w1 hI hp => ?_) ?_
            rotate_left
            · have e95 := hp.backV 4 3 rfl rfl rfl rfl rfl; have e11 := hp.slotV 11 (by kernel_rfl) rfl; simp at e11
              refine ⟨hp.want rfl rfl rfl e95, ?_⟩
              clear hp
              go_simp
              rfl
            refine Free.Seq.val ?_ (fun _ => Below.refl _ _) (fun a w1 hI hp => ?_) ?_
            rotate_left
            · have e95 := hp.backV 4 4 rfl rfl rfl rfl rfl; have e98 := hp.backV 7 1 rfl rfl rfl rfl rfl; have e99 := hp.backV 8 0 rfl rfl rfl rfl rfl
              refine ⟨hp.want rfl rfl rfl e95, ?_⟩
              clear hp
              go_simp
              rfl
            refine Free.Seq.val ?_ (fun _ => Below.refl _ _) (fun a w1 hI hp => ?_) ?_
            rotate_left
            · have e95 := hp.backV 4 5 rfl rfl rfl rfl rfl; have e100 := hp.backV 9 0 rfl rfl rfl rfl rfl
              have hc := (HrT.out.below hI).string (P := Try.prog) 28 9 5 Try.underlying28 Try.underlying5 Try.underlying9
              refine ⟨hp.want rfl rfl rfl e95, ?_⟩
              clear hp
              go_simp
              rfl
            refine Free.Seq.val ?_ (fun _ => Below.refl _ _) (fun a w1 hI hp => ?_) ?_
            rotate_left
            · have e95 := hp.backV 4 6 rfl rfl rfl rfl rfl; have e97 := hp.backV 6 4 rfl rfl rfl rfl rfl; have e101 := hp.backV 10 0 rfl rfl rfl rfl rfl
              refine ⟨hp.want rfl rfl rfl e95, ?_⟩
              clear hp
              go_simp
              rfl
            refine Free.Seq.val ?_ (fun _ => Below.refl _ _) (fun a w1 hI hp => ?_) ?_
            rotate_left
            · have e95 := hp.backV 4 7 rfl rfl rfl rfl rfl; have e102 := hp.backV 11 0 rfl rfl rfl rfl rfl
              refine ⟨Free.want_none rfl, ?_⟩
              clear hp
              go_simp
              rfl
            refine Free.Seq.done (by simp) (fun wz hIz => ?_)
            simp only [List.reverse_cons, List.reverse_nil, List.nil_append, List.cons_append, Free.All, Free.eqF, forall_eq]
            skip
            simp only [Free.putL, Act.put, List.setIfInBounds_toArray, List.set_cons_zero, List.set_cons_succ]
            go_wp2_with fail
            have HW7 := Lib.hid (HW6.out.grow hIz)
            refine (tick_any _ HW7.out.ln (by omega) (by omega)).mono ?_
            rintro e w8 ⟨rfl, H8, k8⟩
            have HW8 := Lib.hid (HW7.out.line (k8.mono (fun _ _ e => .inl e)) H8 (Anew.refl _ _) (Anew.refl _ _))
            clear H8 k8 hIz
            go_wp2
            go_roundw
            case rel =>
              refine ⟨k + 1, np + n' - tk, P5, D5, by omega, by omega, by go_num, by omega, by rw [hI1.out, List.length_append, hxl.out]; omega, ?_⟩
              rw [hI1.out, List.length_append, hxl.out, hN, ← HWl.out]
              exact HW8.out
            case measure =>
              simp [intOf]
              omega
      · have hst : ¬ (k < 60) := hk60
        have HWW := Lib.hid HW
        have hpl := Lib.hid HW.ln.plen
        clear HW
        obtain ⟨N, hN⟩ : ∃ N, N = (ls.take k).flatten.length := ⟨_, rfl⟩
        rw [← hN] at HWW htot
        have HN := Lib.hid hN
        clear hN
        obtain ⟨AU, cU, rfl⟩ := row_form HWW.out.hU
        go_wp2_with fail
        go_loopw [12] (fun i w2 => ∃ t : Nat, t ≤ dn ∧ i = .int .i64 t ∧ Whole w w2 w.heap.size dn ((k : Int) + (t : Int)) np P D (.slice AU N cU) u8 u9 ((ls.take k).drop (k - dn)).flatten (Lin.dues dn (k - dn) ((ls.take k).drop (k - dn))) N (ls.take k).flatten (ls.take (k - dn)).flatten.length (ls.take (k - dn)).flatten k (Lin.ends ls k)) (fun i _ => dn - (intOf i).toNat)
        case atStart => exact ⟨0, Nat.zero_le _, rfl, by simpa using HWW.out⟩
        case round =>
          obtain ⟨t, ht, rfl, HT⟩ := hrel
          have HTT := Lib.hid HT
          clear HT
          by_cases htd : t < dn
          · go_wp2_with fail
            refine (tick_any _ HTT.out.ln (by omega) (by omega)).mono ?_
            rintro e w8 ⟨rfl, H8, k8⟩
            have HW8 := Lib.hid (HTT.out.line (k8.mono (fun _ _ e => .inl e)) H8 (Anew.refl _ _) (Anew.refl _ _))
            clear H8 k8
            go_wp2
            go_roundw
            case rel => exact ⟨t + 1, by omega, by go_num, by rw [show ((k : Int) + ((t + 1 : Nat) : Int)) = (k : Int) + (t : Int) + 1 by push_cast; omega]; exact HW8.out⟩
            case measure =>
              simp [intOf]
              omega
          · obtain rfl : dn = t := by omega
            have hkl : k ≤ ls.length := by rw [hlen.out]; omega
            have hsl : ((ls.take k).drop (k - dn)).length = k - (k - dn) := by simp; omega
            have q1 : ∀ j y, j < np → (Lin.dues dn (k - dn) ((ls.take k).drop (k - dn)))[j]? = some y → y ≤ (k : Int) + (dn : Int) := by
              intro j y _ hy
              have := (Lin.dues_ge dn _ (k - dn) j y hy).2
              rw [hsl] at this
              omega
            have q2 : ∀ y, (Lin.dues dn (k - dn) ((ls.take k).drop (k - dn)))[np]? = some y → (k : Int) + (dn : Int) < y := by
              intro y hy
              rw [List.getElem?_eq_none (by rw [HTT.out.ln.dlen]; exact Nat.le_refl _)] at hy
              cases hy
            have Q1 := Lib.hid q1
            have Q2 := Lib.hid q2
            clear q1 q2 hsl hkl
            go_wp2_with fail
            refine (take_any _ HTT.out.ln (by omega) np (Nat.le_refl _) Q1.out Q2.out).mono ?_
            rintro e w5 ⟨A5, c5, P5, D5, rfl, ho5, H5, k5, aP5, aD5⟩
            have HW5 := HTT.out.line (k5.mono (fun _ _ e => .inl e)) H5 aP5 aD5
            rw [List.take_of_length_le (by rw [hpl.out]; exact Nat.le_refl _)] at ho5
            have hsa := Lin.seg_all ls (k - dn) k
            rw [Nat.max_eq_right (by omega)] at hsa
            have hM : (ls.take (k - dn)).flatten.length + np = N := by
              have := congrArg List.length hsa
              rw [List.length_append, hpl.out, ← HN.out] at this
              exact this
            have hRd := Lib.hid (ho5.rd hpl.out (by omega))
            have HW5' := Lib.hid HW5
            have Hsa := Lib.hid hsa
            clear H5 k5 aP5 aD5 ho5 HW5 hsa
            rename_i hKK
            refine hKK _ _ ?_
            refine wpList_app _ rfl elemB (.tmp 113) (.tmp 115) rfl (v := u8) rfl HW5'.out.hV rfl hRd.out.src N hM (by omega) HW5'.out.bel.size ?_
            intro A6 c6 w6 hown6 hg6 hat6
            have HW6 := Lib.hid (HW5'.out.appV (out' := (ls.take k).flatten) hg6 (by rw [← Hsa.out, bs_append]; exact hown6) (Anew.of hat6))
            have hc1 := conv_bytes (OwnB.of HW6.out.hV (ls.take k).flatten rfl) HN.out.symm (by omega) (Below.refl _ _)
            have hc2 := conv_bytes (OwnB.of HW6.out.hU (ls.take k).flatten rfl) HN.out.symm (by omega) (Below.refl _ _)
            have hL := len_any _ HW6.out.ln
            rw [Nat.sub_self] at hL
            have HL := Lib.hid hL
            clear hown6 hg6 hat6 hM hL
            go_wp2_with (first
              | (go_at_call 10; refine HL.out.mono ?_; rintro e w' ⟨rfl, rfl⟩)
              | (go_at_call 8; refine (awake_any _).mono ?_; rintro e w' ⟨rfl, hb2⟩))
            go_ret
            exact ⟨rfl, HW6.out.bel.trans (hb2.mono HW6.out.bel.size)⟩
    · obtain rfl : n = k := by omega
      have HWW := Lib.hid HW
      have hpl := Lib.hid HW.ln.plen
      clear HW
      obtain ⟨N, hN⟩ : ∃ N, N = (ls.take n).flatten.length := ⟨_, rfl⟩
      rw [← hN] at HWW htot
      have HN := Lib.hid hN
      clear hN
      obtain ⟨AU, cU, rfl⟩ := row_form HWW.out.hU
      go_wp2_with fail
      go_loopw [12] (fun i w2 => ∃ t : Nat, t ≤ dn ∧ i = .int .i64 t ∧ Whole w w2 w.heap.size dn ((n : Int) + (t : Int)) np P D (.slice AU N cU) u8 u9 ((ls.take n).drop (n - dn)).flatten (Lin.dues dn (n - dn) ((ls.take n).drop (n - dn))) N (ls.take n).flatten (ls.take (n - dn)).flatten.length (ls.take (n - dn)).flatten n (Lin.ends ls n)) (fun i _ => dn - (intOf i).toNat)
      case atStart => exact ⟨0, Nat.zero_le _, rfl, by simpa using HWW.out⟩
      case round =>
        obtain ⟨t, ht, rfl, HT⟩ := hrel
        have HTT := Lib.hid HT
        clear HT
        by_cases htd : t < dn
        · go_wp2_with fail
          refine (tick_any _ HTT.out.ln (by omega) (by omega)).mono ?_
          rintro e w8 ⟨rfl, H8, k8⟩
          have HW8 := Lib.hid (HTT.out.line (k8.mono (fun _ _ e => .inl e)) H8 (Anew.refl _ _) (Anew.refl _ _))
          clear H8 k8
          go_wp2
          go_roundw
          case rel => exact ⟨t + 1, by omega, by go_num, by rw [show ((n : Int) + ((t + 1 : Nat) : Int)) = (n : Int) + (t : Int) + 1 by push_cast; omega]; exact HW8.out⟩
          case measure =>
            simp [intOf]
            omega
        · obtain rfl : dn = t := by omega
          have hkl : n ≤ ls.length := by rw [hlen.out]; omega
          have hsl : ((ls.take n).drop (n - dn)).length = n - (n - dn) := by simp; omega
          have q1 : ∀ j y, j < np → (Lin.dues dn (n - dn) ((ls.take n).drop (n - dn)))[j]? = some y → y ≤ (n : Int) + (dn : Int) := by
            intro j y _ hy
            have := (Lin.dues_ge dn _ (n - dn) j y hy).2
            rw [hsl] at this
            omega
          have q2 : ∀ y, (Lin.dues dn (n - dn) ((ls.take n).drop (n - dn)))[np]? = some y → (n : Int) + (dn : Int) < y := by
            intro y hy
            rw [List.getElem?_eq_none (by rw [HTT.out.ln.dlen]; exact Nat.le_refl _)] at hy
            cases hy
          have Q1 := Lib.hid q1
          have Q2 := Lib.hid q2
          clear q1 q2 hsl hkl
          go_wp2_with fail
          refine (take_any _ HTT.out.ln (by omega) np (Nat.le_refl _) Q1.out Q2.out).mono ?_
          rintro e w5 ⟨A5, c5, P5, D5, rfl, ho5, H5, k5, aP5, aD5⟩
          have HW5 := HTT.out.line (k5.mono (fun _ _ e => .inl e)) H5 aP5 aD5
          rw [List.take_of_length_le (by rw [hpl.out]; exact Nat.le_refl _)] at ho5
          have hsa := Lin.seg_all ls (n - dn) n
          rw [Nat.max_eq_right (by omega)] at hsa
          have hM : (ls.take (n - dn)).flatten.length + np = N := by
            have := congrArg List.length hsa
            rw [List.length_append, hpl.out, ← HN.out] at this
            exact this
          have hRd := Lib.hid (ho5.rd hpl.out (by omega))
          have HW5' := Lib.hid HW5
          have Hsa := Lib.hid hsa
          clear H5 k5 aP5 aD5 ho5 HW5 hsa
          rename_i hKK
          refine hKK _ _ ?_
          refine wpList_app _ rfl elemB (.tmp 113) (.tmp 115) rfl (v := u8) rfl HW5'.out.hV rfl hRd.out.src N hM (by omega) HW5'.out.bel.size ?_
          intro A6 c6 w6 hown6 hg6 hat6
          have HW6 := Lib.hid (HW5'.out.appV (out' := (ls.take n).flatten) hg6 (by rw [← Hsa.out, bs_append]; exact hown6) (Anew.of hat6))
          have hc1 := conv_bytes (OwnB.of HW6.out.hV (ls.take n).flatten rfl) HN.out.symm (by omega) (Below.refl _ _)
          have hc2 := conv_bytes (OwnB.of HW6.out.hU (ls.take n).flatten rfl) HN.out.symm (by omega) (Below.refl _ _)
          have hL := len_any _ HW6.out.ln
          rw [Nat.sub_self] at hL
          have HL := Lib.hid hL
          clear hown6 hg6 hat6 hM hL
          go_wp2_with (first
            | (go_at_call 10; refine HL.out.mono ?_; rintro e w' ⟨rfl, rfl⟩)
            | (go_at_call 8; refine (awake_any _).mono ?_; rintro e w' ⟨rfl, hb2⟩))
          go_ret
          exact ⟨rfl, HW6.out.bel.trans (hb2.mono HW6.out.bel.size)⟩

/-- LineWhole -/
theorem whole_law (dl : Int) (A : Option Addr) (n c : Nat) (ls : List (List UInt8)) (w : World) (hR : RdL w A n c ls) :
    Calls Try.prog 3 #[.int .i64 dl, .slice A n c] w fun e w' => e = .returned (.bool true) ∧ Below w.heap.size w w' := by
  by_cases h : 0 ≤ dl ∧ dl ≤ 64
  · obtain ⟨dn, rfl⟩ : ∃ dn : Nat, dl = dn := ⟨dl.toNat, by omega⟩
    exact whole_good dn (by omega) A n c ls w hR
  · exact whole_bad dl (by omega) A n c w
end Go.Proofs.Ytgiboekjjnmnnaa
