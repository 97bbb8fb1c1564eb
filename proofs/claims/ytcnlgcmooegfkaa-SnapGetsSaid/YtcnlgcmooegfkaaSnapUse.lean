/-
  PLAIN LAWS: the counters that were used.
-/
import Derived.Test.YtcnlgcmooegfkaaSnapMath
namespace Go.Proofs.Ytcnlgcmooegfkaa
namespace Sn
open Mg

/-- the counters that were used, behind a message -/
def useU (self ep : Int) (u : List Int) (i : Mid) : List Int := if i.o = self ∧ i.e = ep then u.set i.d.toNat (max (u.getD i.d.toNat 0) i.c) else u
def useAll (self ep : Int) : List Ms → List Int → List Int
  | [], u => u
  | m :: r, u => useAll self ep r (useU self ep u m.i)
def usedOf : List Nx → List Int → List Int
  | [], u => u
  | n :: r, u => usedOf r (u.set n.d.toNat n.c)
theorem useAll_snoc (self ep : Int) (m : Ms) : ∀ (l : List Ms) (u : List Int), useAll self ep (l ++ [m]) u = useU self ep (useAll self ep l u) m.i
  | [], _ => rfl
  | _ :: r, _ => useAll_snoc self ep m r _
theorem usedOf_snoc (n : Nx) : ∀ (l : List Nx) (u : List Int), usedOf (l ++ [n]) u = (usedOf l u).set n.d.toNat n.c
  | [], _ => rfl
  | _ :: r, _ => usedOf_snoc n r _
theorem useU_len (self ep : Int) (u : List Int) (i : Mid) : (useU self ep u i).length = u.length := by
  unfold useU; split <;> simp
theorem useAll_len (self ep : Int) : ∀ (l : List Ms) (u : List Int), (useAll self ep l u).length = u.length
  | [], _ => rfl
  | _ :: r, _ => (useAll_len self ep r _).trans (useU_len _ _ _ _)
theorem usedOf_len : ∀ (l : List Nx) (u : List Int), (usedOf l u).length = u.length
  | [], _ => rfl
  | _ :: r, _ => (usedOf_len r _).trans (by simp)
theorem getD_set (u : List Int) (i j : Nat) (x : Int) (hi : i < u.length) : (u.set i x).getD j 0 = if i = j then x else u.getD j 0 := by
  simp only [List.getD_eq_getElem?_getD, List.getElem?_set]
  split
  · simp
  · rfl
theorem useU_ge (self ep : Int) (u : List Int) (i : Mid) (hd : i.d.toNat < u.length) (j : Nat) : u.getD j 0 ≤ (useU self ep u i).getD j 0 := by
  unfold useU
  split
  · rw [getD_set _ _ _ _ hd]
    split
    · rename_i h; subst h; omega
    · exact Int.le_refl _
  · exact Int.le_refl _
theorem useAll_ge (self ep : Int) : ∀ (l : List Ms) (u : List Int), (∀ m ∈ l, m.i.d.toNat < u.length) → ∀ j, u.getD j 0 ≤ (useAll self ep l u).getD j 0
  | [], _, _, _ => Int.le_refl _
  | x :: r, u, h, j => Int.le_trans (useU_ge self ep u x.i (h x (List.mem_cons_self ..)) j) (useAll_ge self ep r _ (fun m hm => by rw [useU_len]; exact h m (List.mem_cons_of_mem _ hm)) j)
theorem useU_eq (self ep : Int) (u : List Int) (i : Mid) (h : i.o = self ∧ i.e = ep → i.c ≤ u.getD i.d.toNat 0) : useU self ep u i = u := by
  unfold useU
  split
  · rename_i hh
    rw [Int.max_eq_left (h hh)]; rw [List.getD_eq_getElem?_getD]
    rcases Nat.lt_or_ge i.d.toNat u.length with hl | hl
    · rw [List.getElem?_eq_getElem hl]; simp
    · rw [List.set_eq_of_length_le hl]
  · rfl
theorem useAll_eq (self ep : Int) : ∀ (l : List Ms) (u : List Int), (∀ m ∈ l, m.i.d.toNat < u.length) → (useAll self ep l u = u ↔ ∀ m ∈ l, m.i.o = self ∧ m.i.e = ep → m.i.c ≤ u.getD m.i.d.toNat 0)
  | [], u, _ => by simp [useAll]
  | x :: r, u, h => by
    have hx := h x (List.mem_cons_self ..); have hr : ∀ m ∈ r, m.i.d.toNat < (useU self ep u x.i).length := fun m hm => by rw [useU_len]; exact h m (List.mem_cons_of_mem _ hm)
    constructor
    · intro he; rw [useAll] at he; have h1 : x.i.o = self ∧ x.i.e = ep → x.i.c ≤ u.getD x.i.d.toNat 0 := fun hh => by
        have h2 := useAll_ge self ep r _ hr x.i.d.toNat; rw [he] at h2; rw [useU, if_pos hh, getD_set _ _ _ _ hx, if_pos rfl] at h2; omega
      have h3 := useU_eq self ep u x.i h1; rw [h3] at he; have h4 := (useAll_eq self ep r u (fun m hm => h m (List.mem_cons_of_mem _ hm))).1 he; intro m hm
      rcases List.mem_cons.1 hm with rfl | hm
      · exact h1
      · exact h4 m hm
    · intro hh; have h3 := useU_eq self ep u x.i (hh x (List.mem_cons_self ..)); rw [useAll, h3]; exact (useAll_eq self ep r u (fun m hm => h m (List.mem_cons_of_mem _ hm))).2 (fun m hm => hh m (List.mem_cons_of_mem _ hm))
theorem nextB_in {self ep : Int} : ∀ {l : List Nx} {last : Int}, nextB self ep last l = true → ∀ n ∈ l, last < n.d ∧ (0 ≤ n.d ∧ n.d ≤ 63)
  | x :: r, last, h, n, hn => by
    simp only [nextB, Bool.and_eq_true, decide_eq_true_eq] at h
    rcases List.mem_cons.1 hn with rfl | hn
    · exact ⟨h.1.1.1.1.1, h.1.1.1.1.2⟩
    · have := nextB_in h.2 n hn; exact ⟨by omega, this.2⟩
theorem usedOf_far : ∀ (l : List Nx) (u : List Int) (d : Nat), (∀ n ∈ l, n.d.toNat ≠ d) → (usedOf l u).getD d 0 = u.getD d 0
  | [], _, _, _ => rfl
  | x :: r, u, d, h => by
    rw [usedOf, usedOf_far r _ d (fun n hn => h n (List.mem_cons_of_mem _ hn))]; rw [List.getD_eq_getElem?_getD, List.getElem?_set_ne (h x (List.mem_cons_self ..)), ← List.getD_eq_getElem?_getD]
theorem usedOf_get {self ep : Int} : ∀ (l : List Nx) (u : List Int) (last : Int), nextB self ep last l = true → u.length = 64 → ∀ d : Int, 0 ≤ d → d ≤ 63 → u.getD d.toNat 0 = 0 → (usedOf l u).getD d.toNat 0 = lastOf l d
  | [], u, _, _, _, d, _, _, h => h
  | x :: r, u, last, h, hu, d, h0, h1, hz => by
    have hin := nextB_in h; have hx := (hin x (List.mem_cons_self ..)).2; have hr : nextB self ep x.d r = true := by
      simp only [nextB, Bool.and_eq_true] at h; exact h.2
    rw [usedOf, lastOf]
    split
    · rename_i he
      subst he; rw [usedOf_far r _ _ (fun n hn => by have := nextB_in hr n hn; omega), getD_set _ _ _ _ (by omega), if_pos rfl]
    · rename_i he
      exact usedOf_get r _ x.d hr (by simpa using hu) d h0 h1 (by rw [getD_set _ _ _ _ (by omega), if_neg (by omega)]; exact hz)
/-- what appB gives of each message -/
theorem appB_in {self ep : Int} : ∀ {l : List Ms} {b : List Mid}, appB self ep b l = true → ∀ m ∈ l, chkM m.i m.l.length = 0
  | x :: r, b, h, m, hm => by
    simp only [appB, okM, Bool.and_eq_true, decide_eq_true_eq] at h
    rcases List.mem_cons.1 hm with rfl | hm
    · exact h.1.1.1.1
    · exact appB_in h.2 m hm
theorem chkM_in {i : Mid} {n : Nat} (h : chkM i n = 0) : In i ∧ i.o ≠ i.d ∧ 1 ≤ n ∧ n ≤ 48 := by
  unfold chkM at h
  split at h
  · rename_i hk
    unfold chk at hk
    split at hk
    · rename_i hI
      split at hk
      · cases hk
      · rename_i hne
        split at h
        · cases h
        · split at h
          · cases h
          · exact ⟨hI, hne, by omega, by omega⟩
    · cases hk
  · rename_i hk; exact absurd h hk
/-- the last test of the held messages -/
theorem use_hold {self ep : Int} {nx : List Nx} {hd : List Ms} (hn : nextB self ep (-1) nx = true) (ha : appB self ep [] hd = true) : (useAll self ep hd (usedOf nx (List.replicate 64 0)) = usedOf nx (List.replicate 64 0)) ↔ hd.all (leM self ep nx) = true := by
  have hlen : (usedOf nx (List.replicate 64 0)).length = 64 := by rw [usedOf_len]; simp
  have hd' : ∀ m ∈ hd, 0 ≤ m.i.d ∧ m.i.d ≤ 63 := fun m hm => (chkM_in (appB_in ha m hm)).1.2.1
  rw [useAll_eq self ep hd _ (fun m hm => by rw [hlen]; have := hd' m hm; omega)]; rw [List.all_eq_true]
  constructor
  · intro h m hm; simp only [leM, decide_eq_true_eq]; intro hh; have := h m hm hh
    rwa [usedOf_get nx _ (-1) hn (by simp) m.i.d (hd' m hm).1 (hd' m hm).2 (by rw [List.getD_eq_getElem?_getD, List.getElem?_replicate]; split <;> rfl)] at this
  · intro h m hm hh; have := h m hm; simp only [leM, decide_eq_true_eq] at this; rw [usedOf_get nx _ (-1) hn (by simp) m.i.d (hd' m hm).1 (hd' m hm).2 (by rw [List.getD_eq_getElem?_getD, List.getElem?_replicate]; split <;> rfl)]; exact this hh
theorem bytes_append (a b : List Ms) : bytes (a ++ b) = bytes a + bytes b := by simp [bytes]
end Sn
end Go.Proofs.Ytcnlgcmooegfkaa
