/-
  PLAIN LAWS OF A DECODER: a frame that is fed is told; what is told stands in the bytes as a frame; frames one behind the other.
-/
import Derived.Test.YtpfilomckijmkaaHdlcMath
import Derived.Test.YtpfilomckijmkaaHdlcEnc
namespace Go.Proofs.Ytpfilomckijmkaa
namespace Hdl

theorem good_count (m : Met) (k : Nat) : (count m k).good = m.good + if k = 0 then 1 else 0 := by
  unfold count
  repeat' split
  all_goals first | rfl | simp_all
theorem good_step (d : Dec) (b : UInt8) : (step d b).1.met.good = d.met.good + (step d b).2.length := by
  unfold step
  split
  · split
    · simp
    · rw [good_count]
      split <;> simp
  · split
    · simp
    · split
      · rw [good_count]; simp
      · simp
theorem good_feed : ∀ (l : List UInt8) (d : Dec), (feed d l).1.met.good = d.met.good + (feed d l).2.length
  | [], d => by simp [feed]
  | b :: l, d => by
    have h1 := good_step d b
    have h2 := good_feed l (step d b).1
    simp only [feed, List.length_append]
    omega
theorem feed_gather : ∀ (S inn : List UInt8) (m : Met), (0x7e : UInt8) ∉ S → inn.length + S.length ≤ 260 → feed ⟨false, inn, m⟩ S = (⟨false, inn ++ S, m⟩, [])
  | [], inn, m, _, _ => by simp [feed]
  | b :: S, inn, m, h, hl => by
    have hb : b ≠ 0x7e := fun e => h (by rw [e]; exact List.mem_cons_self ..)
    have hs : (0x7e : UInt8) ∉ S := fun e => h (List.mem_cons_of_mem _ e)
    have h1 : step ⟨false, inn, m⟩ b = (⟨false, inn ++ [b], m⟩, []) := by
      have : ¬ inn.length = 260 := by simp at hl; omega
      simp [step, hb, this]
    have h2 := feed_gather S (inn ++ [b]) m hs (by simp at hl ⊢; omega)
    simp [feed, h1, h2]
theorem kind_stuffed (c : List UInt8) (h1 : 1 ≤ c.length) (h2 : c.length ≤ 128) : kind (Stf.stuff (Crc.added c)) = (0, c) := by
  have hl : (Crc.added c).length = c.length + 2 := by simp [Crc.added]
  have hr := Crc.right_added c
  have ht : (Crc.added c).take ((Crc.added c).length - 2) = c := by rw [hl]; simp [Crc.added]
  have h3 : ¬ (Crc.added c).length < 3 := by omega
  have h4 : ¬ 128 < (Crc.added c).length - 2 := by omega
  unfold kind
  rw [Stf.back]
  simp only [h3, h4, hr, if_false, ht]
  simp
theorem step_flag (d : Dec) : (step d 0x7e).1 = ⟨false, [], (step d 0x7e).1.met⟩ := by
  unfold step
  rw [if_pos rfl]
  split <;> rfl
theorem stuffed_len (c : List UInt8) (h2 : c.length ≤ 128) : (Stf.stuff (Crc.added c)).length ≤ 260 := by
  have := (Stf.size_bounds (Crc.added c)).2
  have hl : (Crc.added c).length = c.length + 2 := by simp [Crc.added]
  omega
theorem stuffed_pos (c : List UInt8) : Stf.stuff (Crc.added c) ≠ [] := by
  intro e
  have := (Stf.size_bounds (Crc.added c)).1
  have hl : (Crc.added c).length = c.length + 2 := by simp [Crc.added]
  rw [e, hl] at this
  simp at this
/-- a frame's rest behind its first flag -/
theorem feed_rest (m : Met) (c : List UInt8) (h1 : 1 ≤ c.length) (h2 : c.length ≤ 128) : feed ⟨false, [], m⟩ (Stf.stuff (Crc.added c) ++ [0x7e]) = (⟨false, [], count m 0⟩, [c]) := by
  rw [feed_append, feed_gather _ [] m (Stf.clean _) (by simpa using stuffed_len c h2)]
  have hk := kind_stuffed c h1 h2
  have hp := stuffed_pos c
  simp only [feed, List.nil_append, List.append_nil]
  unfold step
  rw [if_pos rfl, if_neg (by simp [hp])]
  simp [hk]
/-- a frame, whatever was fed ahead of it -/
theorem feed_frame (d : Dec) (c : List UInt8) (h1 : 1 ≤ c.length) (h2 : c.length ≤ 128) : feed d (frame c) = (⟨false, [], count (step d 0x7e).1.met 0⟩, (step d 0x7e).2 ++ [c]) := by
  have h := feed_rest (step d 0x7e).1.met c h1 h2
  rw [← step_flag] at h
  show ((feed (step d 0x7e).1 (Stf.stuff (Crc.added c) ++ [0x7e])).1, (step d 0x7e).2 ++ (feed (step d 0x7e).1 (Stf.stuff (Crc.added c) ++ [0x7e])).2) = _
  rw [h]

/-- q stands in p -/
def In (p q : List UInt8) : Prop := ∃ a b, p = a ++ q ++ b
theorem In.app {p q : List UInt8} (h : In p q) (r : List UInt8) : In (p ++ r) q := by
  obtain ⟨a, b, rfl⟩ := h
  exact ⟨a, b ++ r, by simp⟩
/-- what has come, for the decoder's state -/
def Seen (p : List UInt8) (d : Dec) : Prop := d.hunts = false → ∃ a, p = a ++ 0x7e :: d.inn
theorem right_added_of {q : List UInt8} (h : Crc.right q = true) : Crc.added (q.take (q.length - 2)) = q := by
  unfold Crc.right at h
  simp at h
  exact h.2
theorem kind_frame {p : List UInt8} (h : (kind p).1 = 0) : frame (kind p).2 = 0x7e :: (p ++ [0x7e]) := by
  unfold kind at h ⊢
  cases hu : Stf.unstuff false p with
  | none => simp [hu] at h
  | some q =>
    simp only [hu] at h ⊢
    by_cases h3 : q.length < 3
    · simp [h3] at h
    · by_cases h4 : Crc.right q = false
      · simp [h3, h4] at h
      · by_cases h5 : 128 < q.length - 2
        · simp [h3, h4, h5] at h
        · simp only [if_neg h3, if_neg h4, if_neg h5]
          unfold frame
          rw [right_added_of (by simpa using h4), Stf.there _ _ hu]
theorem kind_ok {p : List UInt8} (h : (kind p).1 = 0) : 1 ≤ (kind p).2.length ∧ (kind p).2.length ≤ 128 := by
  unfold kind at h ⊢
  cases hu : Stf.unstuff false p with
  | none => simp [hu] at h
  | some q =>
    simp only [hu] at h ⊢
    by_cases h3 : q.length < 3
    · simp [h3] at h
    · by_cases h4 : Crc.right q = false
      · simp [h3, h4] at h
      · by_cases h5 : 128 < q.length - 2
        · simp [h3, h4, h5] at h
        · simp only [if_neg h3, if_neg h4, if_neg h5, List.length_take]
          omega
theorem seen_step {p : List UInt8} {d : Dec} (h : Seen p d) (b : UInt8) : Seen (p ++ [b]) (step d b).1 ∧ ∀ c ∈ (step d b).2, 1 ≤ c.length ∧ c.length ≤ 128 ∧ In (p ++ [b]) (frame c) := by
  unfold step
  by_cases hb : b = 0x7e
  · subst hb
    rw [if_pos rfl]
    by_cases hh : d.hunts = true ∨ d.inn = []
    · rw [if_pos hh]
      exact ⟨fun _ => ⟨p, rfl⟩, fun c hc => by cases hc⟩
    · rw [if_neg hh]
      refine ⟨fun _ => ⟨p, rfl⟩, fun c hc => ?_⟩
      by_cases h0 : (kind d.inn).1 = 0
      · rw [if_pos h0] at hc
        rw [List.mem_singleton.1 hc]
        have hu : d.hunts = false := by
          cases h1 : d.hunts with
          | true => exact absurd (.inl h1) hh
          | false => rfl
        obtain ⟨a, ha⟩ := h hu
        refine ⟨(kind_ok h0).1, (kind_ok h0).2, a, [], ?_⟩
        rw [kind_frame h0, ha]
        simp
      · rw [if_neg h0] at hc
        cases hc
  · rw [if_neg hb]
    by_cases hh : d.hunts = true
    · rw [if_pos hh]
      exact ⟨fun e => (by rw [hh] at e; cases e), fun c hc => by cases hc⟩
    · rw [if_neg hh]
      by_cases hl : d.inn.length = 260
      · rw [if_pos hl]
        exact ⟨(fun e => by cases e), fun c hc => by cases hc⟩
      · rw [if_neg hl]
        refine ⟨fun _ => ?_, fun c hc => by cases hc⟩
        obtain ⟨a, ha⟩ := h (by simpa using hh)
        exact ⟨a, by rw [ha]; simp⟩
theorem seen_feed : ∀ (l : List UInt8) (p : List UInt8) (d : Dec), Seen p d → ∀ c ∈ (feed d l).2, 1 ≤ c.length ∧ c.length ≤ 128 ∧ In (p ++ l) (frame c)
  | [], p, d, _, c, hc => by cases hc
  | b :: l, p, d, h, c, hc => by
    obtain ⟨h1, h2⟩ := seen_step h b
    rcases List.mem_append.1 hc with hc | hc
    · obtain ⟨a1, a2, a3⟩ := h2 c hc
      refine ⟨a1, a2, ?_⟩
      have := a3.app l
      simpa using this
    · have := seen_feed l (p ++ [b]) _ h1 c hc
      simpa using this
end Hdl
end Go.Proofs.Ytpfilomckijmkaa
