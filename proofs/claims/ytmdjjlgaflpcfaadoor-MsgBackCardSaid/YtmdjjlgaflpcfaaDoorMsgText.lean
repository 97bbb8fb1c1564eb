/-
  PLAIN LAWS OF IDS' TEXTS: an id's text, the id of a text, as the program and as the document reads it.
-/
import Derived.Test.YtmdjjlgaflpcfaaDoorMsgGets
import Derived.Lib.AtoiTie
import Derived.Lib.ItoaNum
import Derived.Lib.IndexLaws
namespace Go.Proofs.YtmdjjlgaflpcfaaDoor
open Go.RowKit Mg

/-- what stands ahead of the first such byte, and behind it -/
def cut1 : List UInt8 → UInt8 → List UInt8 × List UInt8
  | [], _ => ([], [])
  | b :: l, c => if b = c then ([], l) else (b :: (cut1 l c).1, (cut1 l c).2)
theorem cut1_miss : ∀ (l : List UInt8) (c : UInt8), Lib.indexByte l c = -1 → cut1 l c = (l, [])
  | [], _, _ => rfl
  | b :: l, c, h => by
    unfold Lib.indexByte at h
    unfold cut1
    by_cases e : b = c
    · subst e; simp at h
    · rw [if_neg e]
      have hge := Lib.indexByte_ge l c
      by_cases h2 : Lib.indexByte l c = -1
      · rw [cut1_miss l c h2]
      · exfalso
        simp [e, h2] at h
        omega
theorem cut1_hit : ∀ (l : List UInt8) (c : UInt8) (i : Nat), Lib.indexByte l c = i → i < l.length ∧ cut1 l c = (l.take i, l.drop (i + 1))
  | [], _, i, h => by unfold Lib.indexByte at h; omega
  | b :: l, c, i, h => by
    unfold Lib.indexByte at h
    unfold cut1
    by_cases e : b = c
    · subst e
      simp at h
      obtain rfl : i = 0 := by omega
      simp
    · rw [if_neg e]
      have hge := Lib.indexByte_ge l c
      by_cases h2 : Lib.indexByte l c = -1
      · simp [e, h2] at h
      · simp [e, h2] at h
        obtain ⟨j, rfl⟩ : ∃ j, i = j + 1 := ⟨i - 1, by omega⟩
        obtain ⟨h3, h4⟩ := cut1_hit l c j (by omega)
        rw [h4]
        simp [h3]

def dig (b : UInt8) : Prop := 48 ≤ b.toNat ∧ b.toNat ≤ 57
theorem digits_dig : ∀ n : Nat, ∀ b ∈ Lib.decDigits n, dig b := by
  intro n
  induction n using Nat.strongRecOn with
  | _ n ih =>
    intro b hb
    rw [Lib.decDigits] at hb
    have e : ∀ k, k < 10 → dig (UInt8.ofNat (48 + k)) := fun k hk => by
      unfold dig
      rw [UInt8.toNat_ofNat', Nat.mod_eq_of_lt (by omega)]
      omega
    split at hb
    · rw [List.mem_singleton.1 hb]
      exact e n (by omega)
    · rcases List.mem_append.1 hb with h | h
      · exact ih (n / 10) (by omega) b h
      · rw [List.mem_singleton.1 h]
        exact e (n % 10) (by omega)
theorem cut1_digits : ∀ (l r : List UInt8) (c : UInt8), (∀ b ∈ l, dig b) → ¬ dig c → cut1 (l ++ c :: r) c = (l, r)
  | [], r, c, _, _ => by simp [cut1]
  | b :: l, r, c, h, hc => by
    have hb : b ≠ c := fun e => hc (e ▸ h b (by simp))
    rw [List.cons_append, cut1, if_neg hb, cut1_digits l r c (fun x hx => h x (by simp [hx])) hc]
theorem cut1_none : ∀ (l : List UInt8) (c : UInt8), (∀ b ∈ l, dig b) → ¬ dig c → cut1 l c = (l, [])
  | [], _, _, _ => rfl
  | b :: l, c, h, hc => by
    have hb : b ≠ c := fun e => hc (e ▸ h b (by simp))
    rw [cut1, if_neg hb, cut1_none l c (fun x hx => h x (by simp [hx])) hc]

/-- the number that a word is, or -1 -/
def pnum (l : List UInt8) : Int := match Lib.atoiAll l with | .ok v => v | _ => -1
theorem decFrom_append : ∀ (l r : List UInt8) (a : Nat), Lib.decFrom a (l ++ r) = (Lib.decFrom a l).bind fun x => Lib.decFrom x r
  | [], _, _ => rfl
  | b :: l, r, a => by
    rw [List.cons_append, Lib.decFrom, Lib.decFrom]
    cases h : Lib.digitVal b with
    | none => rfl
    | some d => exact decFrom_append l r _
theorem digitVal_of (k : Nat) (h : k < 10) : Lib.digitVal (UInt8.ofNat (48 + k)) = some k := by
  unfold Lib.digitVal
  have e : (UInt8.ofNat (48 + k)).toNat = 48 + k := by rw [UInt8.toNat_ofNat', Nat.mod_eq_of_lt (by omega)]
  rw [e, if_pos (by omega)]
  congr 1
  omega
theorem decFrom_digits : ∀ n : Nat, Lib.decFrom 0 (Lib.decDigits n) = some n := by
  intro n
  induction n using Nat.strongRecOn with
  | _ n ih =>
    rw [Lib.decDigits]
    split
    · unfold Lib.decFrom
      rw [digitVal_of n (by omega)]
      simp [Lib.decFrom]
    · rw [decFrom_append, ih (n / 10) (by omega)]
      simp only [Option.bind_some]
      unfold Lib.decFrom
      rw [digitVal_of (n % 10) (by omega)]
      simp [Lib.decFrom]
      omega
theorem digits_ne (n : Nat) : ∃ b l, Lib.decDigits n = b :: l ∧ dig b := by
  have hd := digits_dig n
  cases h : Lib.decDigits n with
  | nil =>
    have := Lib.decDigits_length n
    rw [h] at this
    have h2 := Lib.nDigits_pos n
    simp at this
    omega
  | cons b l =>
    rw [h] at hd
    exact ⟨b, l, rfl, hd b (by simp)⟩
theorem digits_len (n : Nat) (hn : n ≤ 65535) : (Lib.decDigits n).length ≤ 5 := by
  rw [Lib.decDigits_length]
  have h : ∀ k, k < 100000 → Lib.nDigits k ≤ 5 := fun k hk => by
    by_cases h1 : k < 10
    · rw [Lib.nDigits_small h1]; omega
    · rw [Lib.nDigits_big h1]
      by_cases h2 : k / 10 < 10
      · rw [Lib.nDigits_small h2]; omega
      · rw [Lib.nDigits_big h2]
        by_cases h3 : k / 10 / 10 < 10
        · rw [Lib.nDigits_small h3]; omega
        · rw [Lib.nDigits_big h3]
          by_cases h4 : k / 10 / 10 / 10 < 10
          · rw [Lib.nDigits_small h4]; omega
          · rw [Lib.nDigits_big h4, Lib.nDigits_small (by omega)]; omega
  exact h n (by omega)
theorem pnum_digits (n : Nat) (hn : n ≤ 65535) : pnum (Lib.decDigits n) = n := by
  unfold pnum
  rw [Lib.atoiAll_short _ (by have := digits_len n hn; omega)]
  have h : Lib.atoi (Lib.decDigits n) = some (n : Int) := by
    have hf := decFrom_digits n
    obtain ⟨b, l, e, hb⟩ := digits_ne n
    rw [e] at hf ⊢
    unfold Lib.atoi
    have h45 : (b == 45) = false := by
      rw [beq_eq_false_iff_ne]; rintro rfl; exact absurd hb.1 (by decide)
    have h43 : (b == 43) = false := by
      rw [beq_eq_false_iff_ne]; rintro rfl; exact absurd hb.1 (by decide)
    simp only [h45, h43, Lib.decNat, List.isEmpty_cons, hf]
    rfl
  rw [h]
  rfl
theorem pnum_wide (l : List UInt8) : -9223372036854775808 ≤ pnum l ∧ pnum l ≤ 9223372036854775807 := by
  unfold pnum
  split
  · rename_i v h
    exact Lib.atoiAll_bounds h
  · omega

/-- the numbers in a text -/
def tnums : Nat → List UInt8 → List Nat
  | n, [] => [n]
  | n, b :: r => if 48 ≤ b.toNat ∧ b.toNat ≤ 57 then tnums (min (10 * n + (b.toNat - 48)) 65536) r else n :: tnums 0 r
def acc (n : Nat) (l : List UInt8) : Nat := l.foldl (fun n b => min (10 * n + (b.toNat - 48)) 65536) n
theorem nums_digits : ∀ (l r : List UInt8) (n : Nat) (c : UInt8), (∀ b ∈ l, dig b) → ¬ dig c → tnums n (l ++ c :: r) = acc n l :: tnums 0 r
  | [], r, n, c, _, hc => by
    rw [List.nil_append, tnums, if_neg (show ¬ (48 ≤ c.toNat ∧ c.toNat ≤ 57) from hc)]
    rfl
  | b :: l, r, n, c, h, hc => by
    rw [List.cons_append, tnums, if_pos (show 48 ≤ b.toNat ∧ b.toNat ≤ 57 from h b (by simp)), nums_digits l r _ c (fun x hx => h x (by simp [hx])) hc]
    rfl
theorem nums_last : ∀ (l : List UInt8) (n : Nat), (∀ b ∈ l, dig b) → tnums n l = [acc n l]
  | [], _, _ => rfl
  | b :: l, n, h => by
    rw [tnums, if_pos (show 48 ≤ b.toNat ∧ b.toNat ≤ 57 from h b (by simp)), nums_last l _ (fun x hx => h x (by simp [hx]))]
    rfl
theorem acc_digits : ∀ n : Nat, n ≤ 65535 → acc 0 (Lib.decDigits n) = n := by
  intro n
  induction n using Nat.strongRecOn with
  | _ n ih =>
    intro hn
    rw [Lib.decDigits]
    split
    · simp [acc]
      omega
    · have := ih (n / 10) (by omega) (by omega)
      unfold acc at this ⊢
      rw [List.foldl_append, this]
      simp
      omega

/-- an id's text -/
def textB (i : Mid) : List UInt8 := Lib.decDigits i.o.toNat ++ 62 :: (Lib.decDigits i.d.toNat ++ 58 :: (Lib.decDigits i.e.toNat ++ 46 :: Lib.decDigits i.c.toNat))
def isText (i : Mid) (s : List UInt8) : Prop := chk i = 0 ∧ textB i = s
instance (i : Mid) (s : List UInt8) : Decidable (isText i s) := inferInstanceAs (Decidable (_ ∧ _))
/-- the id that the program reads -/
def pI (s : List UInt8) : Mid := ⟨pnum (cut1 s 62).1, pnum (cut1 (cut1 s 62).2 58).1, pnum (cut1 (cut1 (cut1 s 62).2 58).2 46).1, pnum (cut1 (cut1 (cut1 (cut1 s 62).2 58).2 46).2 32).1⟩
/-- the id that the document reads -/
def rI (s : List UInt8) : Mid := ⟨((tnums 0 s).getD 0 0 : Nat), ((tnums 0 s).getD 1 0 : Nat), ((tnums 0 s).getD 2 0 : Nat), ((tnums 0 s).getD 3 0 : Nat)⟩
def parI (s : List UInt8) : Mid := if isText (pI s) s then pI s else mid0
def parE (s : List UInt8) : Int := if isText (pI s) s then 0 else 2
def rparI (s : List UInt8) : Mid := if (tnums 0 s).length = 4 ∧ isText (rI s) s then rI s else mid0
def rparE (s : List UInt8) : Int := if (tnums 0 s).length = 4 ∧ isText (rI s) s then 0 else 2
theorem in_nat {i : Mid} (h : chk i = 0) : ∃ o d e c : Nat, i = ⟨o, d, e, c⟩ ∧ o ≤ 65535 ∧ d ≤ 65535 ∧ e ≤ 65535 ∧ c ≤ 65535 := by
  have hin := in_of_chk h
  obtain ⟨o, d, e, c⟩ := i
  obtain ⟨⟨a0, a1⟩, ⟨a2, a3⟩, ⟨a4, a5⟩, a6, a7⟩ := hin
  simp only at a0 a1 a2 a3 a4 a5 a6 a7
  obtain ⟨x0, rfl⟩ := Int.eq_ofNat_of_zero_le a0
  obtain ⟨x1, rfl⟩ := Int.eq_ofNat_of_zero_le a2
  obtain ⟨x2, rfl⟩ := Int.eq_ofNat_of_zero_le (show 0 ≤ e by omega)
  obtain ⟨x3, rfl⟩ := Int.eq_ofNat_of_zero_le (show 0 ≤ c by omega)
  exact ⟨x0, x1, x2, x3, rfl, by omega, by omega, by omega, by omega⟩
theorem pI_text {i : Mid} (h : chk i = 0) : pI (textB i) = i := by
  obtain ⟨o, d, e, c, rfl, h0, h1, h2, h3⟩ := in_nat h
  unfold pI textB
  simp only [Int.toNat_natCast]
  rw [cut1_digits _ _ 62 (digits_dig o) (by unfold dig; decide)]
  simp only
  rw [cut1_digits _ _ 58 (digits_dig d) (by unfold dig; decide)]
  simp only
  rw [cut1_digits _ _ 46 (digits_dig e) (by unfold dig; decide)]
  simp only
  rw [cut1_none _ 32 (digits_dig c) (by unfold dig; decide)]
  simp only
  rw [pnum_digits o h0, pnum_digits d h1, pnum_digits e h2, pnum_digits c h3]
theorem nums_text {i : Mid} (h : chk i = 0) : (tnums 0 (textB i)).length = 4 ∧ rI (textB i) = i := by
  obtain ⟨o, d, e, c, rfl, h0, h1, h2, h3⟩ := in_nat h
  have hn : tnums 0 (textB ⟨o, d, e, c⟩) = [o, d, e, c] := by
    unfold textB
    simp only [Int.toNat_natCast]
    rw [nums_digits _ _ 0 62 (digits_dig o) (by unfold dig; decide), nums_digits _ _ 0 58 (digits_dig d) (by unfold dig; decide), nums_digits _ _ 0 46 (digits_dig e) (by unfold dig; decide), nums_last _ 0 (digits_dig c)]
    rw [acc_digits o h0, acc_digits d h1, acc_digits e h2, acc_digits c h3]
  unfold rI
  rw [hn]
  exact ⟨rfl, rfl⟩
/-- both read alike -/
theorem par_same (s : List UInt8) : parI s = rparI s ∧ parE s = rparE s := by
  unfold parI rparI parE rparE
  by_cases h : isText (pI s) s
  · obtain ⟨h1, h2⟩ := nums_text h.1
    rw [h.2] at h1 h2
    have h3 : (tnums 0 s).length = 4 ∧ isText (rI s) s := ⟨h1, by rw [h2]; exact h⟩
    rw [if_pos h, if_pos h, if_pos h3, if_pos h3, h2]
    exact ⟨rfl, rfl⟩
  · have h3 : ¬ ((tnums 0 s).length = 4 ∧ isText (rI s) s) := fun ⟨_, k⟩ => h (by
      have := pI_text k.1
      rw [k.2] at this
      rw [this]
      exact k)
    rw [if_neg h, if_neg h, if_neg h3, if_neg h3]
    exact ⟨rfl, rfl⟩
end Go.Proofs.YtmdjjlgaflpcfaaDoor
