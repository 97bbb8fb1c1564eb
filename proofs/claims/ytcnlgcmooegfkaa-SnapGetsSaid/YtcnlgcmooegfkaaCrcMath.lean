/-
  PLAIN LAWS OF THE TWO SUMS (no program in sight): a register as a natural number, moved down a bit at a time; a burst of at most as many neighbouring bits as the register has is always seen.
-/
import Derived.WalkKit
namespace Go.Proofs.Ytcnlgcmooegfkaa.Crc

/-- a register moves down by a bit -/
def down (p n : Nat) : Nat := if n % 2 = 1 then n / 2 ^^^ p else n / 2
/-- .. by k bits -/
def downs (p : Nat) : Nat → Nat → Nat
  | 0, n => n
  | k + 1, n => downs p k (down p n)
/-- the register behind a byte -/
def step (p n : Nat) (b : UInt8) : Nat := downs p 8 (n ^^^ b.toNat)
/-- the register behind bytes -/
def run (p n : Nat) (l : List UInt8) : Nat := l.foldl (step p) n
/-- bytes as a number, the first one lowest -/
def val : List UInt8 → Nat
  | [] => 0
  | b :: l => b.toNat + 256 * val l

theorem run_nil (p n : Nat) : run p n [] = n := rfl
theorem run_snoc (p n : Nat) (l : List UInt8) (b : UInt8) : run p n (l ++ [b]) = step p (run p n l) b := by simp [run]
theorem run_append (p n : Nat) (l m : List UInt8) : run p n (l ++ m) = run p (run p n l) m := by simp [run]

theorem down_xor (p a b : Nat) : down p (a ^^^ b) = down p a ^^^ down p b := by
  have h2 : (a ^^^ b) / 2 = a / 2 ^^^ b / 2 := by
    have := Nat.shiftRight_xor_distrib (a := a) (b := b) (i := 1)
    simpa [Nat.shiftRight_eq_div_pow] using this
  have h1 : (a ^^^ b) % 2 = (a % 2 + b % 2) % 2 := by
    have h := @Nat.xor_mod_two_eq_one a b
    rcases Nat.mod_two_eq_zero_or_one a with ha | ha <;> rcases Nat.mod_two_eq_zero_or_one b with hb | hb <;> rcases Nat.mod_two_eq_zero_or_one (a ^^^ b) with hx | hx <;> simp_all
  unfold down; rw [h1, h2]
  rcases Nat.mod_two_eq_zero_or_one a with ha | ha <;> rcases Nat.mod_two_eq_zero_or_one b with hb | hb <;> simp [ha, hb]
  · ac_rfl
  · ac_rfl
  · have : a / 2 ^^^ p ^^^ (b / 2 ^^^ p) = (a / 2 ^^^ b / 2) ^^^ (p ^^^ p) := by ac_rfl
    rw [this]; simp

theorem downs_xor (p : Nat) : ∀ (k a b : Nat), downs p k (a ^^^ b) = downs p k a ^^^ downs p k b
  | 0, _, _ => rfl
  | k + 1, a, b => by simp only [downs, down_xor, downs_xor p k]

theorem down_two_mul (p m : Nat) : down p (2 * m) = m := by
  unfold down; rw [if_neg (by omega)]; omega

theorem downs_add (p : Nat) : ∀ (j k n : Nat), downs p (j + k) n = downs p k (downs p j n)
  | 0, k, n => by simp [downs]
  | j + 1, k, n => by
    rw [show j + 1 + k = (j + k) + 1 from by omega]; simp only [downs]; exact downs_add p j k _

theorem downs_shift (p : Nat) : ∀ (k m : Nat), downs p k (m * 2 ^ k) = m
  | 0, m => by simp [downs]
  | k + 1, m => by
    rw [downs, show m * 2 ^ (k + 1) = 2 * (m * 2 ^ k) from by rw [Nat.pow_succ]; ac_rfl, down_two_mul]; exact downs_shift p k m

theorem val_cons_xor (b : UInt8) (l : List UInt8) : val (b :: l) = b.toNat ^^^ (val l * 2 ^ 8) := by
  have hb : b.toNat < 2 ^ 8 := by have := b.toNat_lt; simpa using this
  have h := Nat.two_pow_add_eq_or_of_lt hb (val l); rw [val, show b.toNat + 256 * val l = 2 ^ 8 * val l + b.toNat from by omega, h]
  apply Nat.eq_of_testBit_eq
  intro i; rw [Nat.testBit_or, Nat.testBit_xor, Nat.mul_comm (val l)]
  rcases Nat.lt_or_ge i 8 with hi | hi
  · have : (2 ^ 8 * val l).testBit i = false := by
      rw [Nat.testBit_two_pow_mul]; simp; omega
    simp [this]
  · have : b.toNat.testBit i = false := Nat.testBit_lt_two_pow (Nat.lt_of_lt_of_le hb (Nat.pow_le_pow_right (by omega) hi)); simp [this]

/-- the register behind bytes is the bytes' number, moved down -/
theorem run_val (p : Nat) : ∀ (l : List UInt8) (n : Nat), run p n l = downs p (8 * l.length) (n ^^^ val l)
  | [], n => by simp [run, val, downs]
  | b :: l, n => by
    have ih := run_val p l (step p n b); rw [show run p n (b :: l) = run p (step p n b) l from rfl, ih, val_cons_xor]; rw [show 8 * (b :: l).length = 8 + 8 * l.length from by simp; omega, downs_add]; rw [show n ^^^ (b.toNat ^^^ val l * 2 ^ 8) = (n ^^^ b.toNat) ^^^ (val l * 2 ^ 8) from by ac_rfl, downs_xor p 8, downs_shift]; rfl

/-- the polynomial has the highest of k + 1 bits: nothing is lost on the way down -/
theorem down_lt {p k n : Nat} (hp : p < 2 ^ (k + 1)) (hn : n < 2 ^ (k + 1)) : down p n < 2 ^ (k + 1) := by
  have h2 : n / 2 < 2 ^ (k + 1) := by omega
  unfold down
  split
  · exact Nat.xor_lt_two_pow h2 hp
  · exact h2
theorem down_zero {p k n : Nat} (hp : 2 ^ k ≤ p) (hn : n < 2 ^ (k + 1)) (h : down p n = 0) : n = 0 := by
  have h2 : n / 2 < 2 ^ k := by rw [Nat.pow_succ] at hn; omega
  unfold down at h
  split at h
  · have e : n / 2 = p := by
      have := congrArg (· ^^^ p) h
      simpa [Nat.xor_assoc] using this
    omega
  · omega
theorem downs_lt {p k : Nat} (hp : p < 2 ^ (k + 1)) : ∀ (j n : Nat), n < 2 ^ (k + 1) → downs p j n < 2 ^ (k + 1)
  | 0, _, h => h
  | j + 1, _, h => downs_lt hp j _ (down_lt hp h)
theorem downs_zero {p k : Nat} (hp : 2 ^ k ≤ p) (hp' : p < 2 ^ (k + 1)) : ∀ (j n : Nat), n < 2 ^ (k + 1) → downs p j n = 0 → n = 0
  | 0, _, _, h => h
  | j + 1, _, hn, h => down_zero hp hn (downs_zero hp hp' j _ (down_lt hp' hn) h)
theorem xor_eq_zero {a b : Nat} (h : a ^^^ b = 0) : a = b := by
  have := congrArg (· ^^^ b) h
  simpa [Nat.xor_assoc] using this
theorem downs_inj {p k : Nat} (hp : 2 ^ k ≤ p) (hp' : p < 2 ^ (k + 1)) (j a b : Nat) (ha : a < 2 ^ (k + 1)) (hb : b < 2 ^ (k + 1)) (h : downs p j a = downs p j b) : a = b := by
  apply xor_eq_zero
  apply downs_zero hp hp' j _ (Nat.xor_lt_two_pow ha hb)
  rw [downs_xor, h]; simp

theorem step_lt {p k n : Nat} (hp : p < 2 ^ (k + 1)) (hn : n < 2 ^ (k + 1)) (hk : 8 ≤ k + 1) (b : UInt8) : step p n b < 2 ^ (k + 1) := by
  have hb : b.toNat < 2 ^ (k + 1) := Nat.lt_of_lt_of_le (by have := b.toNat_lt; simpa using this) (Nat.pow_le_pow_right (by omega) hk : 2 ^ 8 ≤ 2 ^ (k + 1)); exact downs_lt hp 8 _ (Nat.xor_lt_two_pow hn hb)
theorem run_lt {p k : Nat} (hp : p < 2 ^ (k + 1)) (hk : 8 ≤ k + 1) : ∀ (l : List UInt8) (n : Nat), n < 2 ^ (k + 1) → run p n l < 2 ^ (k + 1)
  | [], _, h => h
  | b :: l, _, h => run_lt hp hk l _ (step_lt hp h hk b)

/-- a burst of at most k + 1 neighbouring bits, from bit 'at' on, is seen -/
theorem burst {p k : Nat} (hp : 2 ^ k ≤ p) (hp' : p < 2 ^ (k + 1)) (l q : List UInt8) (n off m : Nat) (hl : q.length = l.length) (hm : m < 2 ^ (k + 1)) (ho : off ≤ 8 * l.length)
    (hv : val q = val l ^^^ (m * 2 ^ off)) : run p n q = run p n l ↔ m = 0 := by
  have e : run p n q = run p n l ^^^ downs p (8 * l.length - off) m := by
    rw [run_val, run_val, hl, hv, show n ^^^ (val l ^^^ m * 2 ^ off) = (n ^^^ val l) ^^^ (m * 2 ^ off) from by ac_rfl, downs_xor]
    congr 1
    rw [show 8 * l.length = off + (8 * l.length - off) from by omega, downs_add, downs_shift]
    congr 1
    omega
  rw [e]
  constructor
  · intro h
    apply downs_zero hp hp' _ _ hm
    have := congrArg (run p n l ^^^ ·) h
    simpa [← Nat.xor_assoc] using this
  · rintro rfl; have : ∀ j, downs p j 0 = 0 := by
      intro j; have := downs_shift p j 0
      simpa using this
    simp [this]

/-! ### the two sums -/
def P16 : Nat := 0x8408
def P32 : Nat := 0xedb88320
/-- the frame's register, its sum; the record's sum -/
def reg16 (l : List UInt8) : Nat := run P16 0xffff l
def fcs (l : List UInt8) : Nat := 0xffff - reg16 l
def reg32 (l : List UInt8) : Nat := run P32 0xffffffff l
def sum (l : List UInt8) : Nat := 0xffffffff - reg32 l

theorem p16_lo : 2 ^ 15 ≤ P16 := by decide
theorem p16_hi : P16 < 2 ^ (15 + 1) := by decide
theorem p32_lo : 2 ^ 31 ≤ P32 := by decide
theorem p32_hi : P32 < 2 ^ (31 + 1) := by decide
theorem reg16_lt (l : List UInt8) : reg16 l < 65536 := run_lt (k := 15) p16_hi (by decide) l _ (by decide)
theorem reg32_lt (l : List UInt8) : reg32 l < 4294967296 := run_lt (k := 31) p32_hi (by decide) l _ (by decide)
theorem step16_lt (n : Nat) (h : n < 65536) (b : UInt8) : step P16 n b < 65536 := step_lt (k := 15) p16_hi h (by decide) b
theorem step32_lt (n : Nat) (h : n < 4294967296) (b : UInt8) : step P32 n b < 4294967296 := step_lt (k := 31) p32_hi h (by decide) b

theorem xor_ones (k n : Nat) (h : n < 2 ^ k) : (2 ^ k - 1) ^^^ n = 2 ^ k - 1 - n := by
  apply Nat.eq_of_testBit_eq
  intro i; rw [Nat.testBit_xor, Nat.testBit_two_pow_sub_one, show 2 ^ k - 1 - n = 2 ^ k - (n + 1) from by omega, Nat.testBit_two_pow_sub_succ h]
  rcases Nat.lt_or_ge i k with hi | hi
  · simp [hi]
  · simp [Nat.not_lt.2 hi, Nat.testBit_lt_two_pow (Nat.lt_of_lt_of_le h (Nat.pow_le_pow_right (by omega) hi))]

/-- bytes with their sum -/
def lo (n : Nat) : UInt8 := UInt8.ofNat (n % 256)
def hi (n : Nat) : UInt8 := UInt8.ofNat (n / 256 % 256)
def added (l : List UInt8) : List UInt8 := l ++ [lo (fcs l), hi (fcs l)]
/-- are bytes some with their sum? -/
def right (l : List UInt8) : Bool := decide (2 ≤ l.length) && (added (l.take (l.length - 2)) == l)

theorem lo_toNat (n : Nat) : (lo n).toNat = n % 256 := by simp [lo]
theorem hi_toNat (n : Nat) : (hi n).toNat = n / 256 % 256 := by simp [hi]

/-- two bytes more: the register is the rest just if they are the sum -/
theorem rest_two (l : List UInt8) (a b : UInt8) : reg16 (l ++ [a, b]) = 0xf0b8 ↔ a = lo (fcs l) ∧ b = hi (fcs l) := by
  have hr := reg16_lt l; have e : reg16 (l ++ [a, b]) = downs P16 16 (reg16 l ^^^ (a.toNat + 256 * b.toNat)) := by
    unfold reg16; rw [run_append, run_val]; rfl
  have ha := a.toNat_lt; have hb := b.toNat_lt; have hx : a.toNat + 256 * b.toNat < 65536 := by simp at ha hb; omega
  have h0 : downs P16 16 0xffff = 0xf0b8 := by decide
  have hfl : fcs l = 0xffff ^^^ reg16 l := by
    have := xor_ones 16 (reg16 l) hr
    simpa [fcs] using this.symm
  have hf : fcs l < 65536 := by unfold fcs; omega
  rw [e, ← h0]
  constructor
  · intro h; have h1 := downs_inj p16_lo p16_hi 16 _ _ (Nat.xor_lt_two_pow (n := 16) hr hx) (by decide) h; have h2 : a.toNat + 256 * b.toNat = fcs l := by
      rw [hfl, ← h1]; have : reg16 l ^^^ (a.toNat + 256 * b.toNat) ^^^ reg16 l = (a.toNat + 256 * b.toNat) ^^^ (reg16 l ^^^ reg16 l) := by ac_rfl
      rw [this]; simp
    simp at ha hb
    constructor
    · apply UInt8.toNat_inj.1; rw [lo_toNat]; omega
    · apply UInt8.toNat_inj.1; rw [hi_toNat]; omega
  · rintro ⟨rfl, rfl⟩; rw [lo_toNat, hi_toNat, show fcs l % 256 + 256 * (fcs l / 256 % 256) = fcs l from by omega, hfl]
    congr 1
    have : reg16 l ^^^ (0xffff ^^^ reg16 l) = 0xffff ^^^ (reg16 l ^^^ reg16 l) := by ac_rfl
    rw [this]; simp

theorem split_two (l : List UInt8) (h : 2 ≤ l.length) : ∃ m a b, l = m ++ [a, b] ∧ m.length = l.length - 2 := by
  refine ⟨l.take (l.length - 2), l[l.length - 2], l[l.length - 1], ?_, by simp⟩
  apply List.ext_getElem
  · simp; omega
  · intro i h1 h2
    rcases Nat.lt_or_ge i (l.length - 2) with hi | hi
    · rw [List.getElem_append_left (by simp; omega)]; simp
    · rw [List.getElem_append_right (by simp; omega)]; simp only [List.length_take, Nat.min_eq_left (Nat.sub_le _ _)]
      rcases (show i = l.length - 2 ∨ i = l.length - 1 from by omega) with e | e <;> subst e
      · simp
      · simp [show l.length - 1 - (l.length - 2) = 1 from by omega]

theorem right_iff (l : List UInt8) (h : 2 ≤ l.length) : right l = true ↔ reg16 l = 0xf0b8 := by
  obtain ⟨m, a, b, rfl, hm⟩ := split_two l h; rw [rest_two]; have e : (m ++ [a, b]).take ((m ++ [a, b]).length - 2) = m := by simp
  unfold right; rw [e]; simp [added]
  constructor
  · rintro ⟨h1, h2⟩; exact ⟨h1.symm, h2.symm⟩
  · rintro ⟨h1, h2⟩; exact ⟨h1.symm, h2.symm⟩

theorem right_added (l : List UInt8) : right (added l) = true := by
  rw [right_iff _ (by simp [added])]; exact (rest_two l _ _).2 ⟨rfl, rfl⟩

/-! ### bits turned -/
/-- bit r of a byte -/
def bit (r : Nat) : UInt8 := UInt8.ofNat (2 ^ r)
theorem bit_toNat (r : Nat) (h : r < 8) : (bit r).toNat = 2 ^ r := by
  have : 2 ^ r < 256 := Nat.lt_of_lt_of_le (Nat.pow_lt_pow_right (by omega) h) (by decide); simp [bit, Nat.mod_eq_of_lt this]
/-- is the k-th bit turned? -/
def hits (n off k mask : Nat) : Prop := mask / 2 ^ k % 2 = 1 ∧ off + k < 8 * n
instance (n off k mask : Nat) : Decidable (hits n off k mask) := inferInstanceAs (Decidable (_ ∧ _))
/-- bytes of which the first k bits of a mask, laid from bit 'off' on, are turned; was one turned? -/
def turns (off mask : Nat) (l : List UInt8) : Nat → List UInt8 × Bool
  | 0 => (l, false)
  | k + 1 => let s := turns off mask l k
    if hits l.length off k mask then (s.1.set ((off + k) / 8) (s.1.getD ((off + k) / 8) 0 ^^^ bit ((off + k) % 8)), true) else s
def turn (l : List UInt8) (at' : Int) (mask size : Nat) : List UInt8 × Bool := if at' < 0 ∨ 8 * l.length ≤ at' then (l, false) else turns at'.toNat mask l size
/-- the bits that are turned, as a number -/
def bitsOf (off mask n : Nat) : Nat → Nat
  | 0 => 0
  | k + 1 => if hits n off k mask then bitsOf off mask n k + 2 ^ k else bitsOf off mask n k

theorem turns_len (off mask : Nat) (l : List UInt8) : ∀ k, (turns off mask l k).1.length = l.length
  | 0 => rfl
  | k + 1 => by
    simp only [turns]
    split
    · simp [turns_len off mask l k]
    · exact turns_len off mask l k
theorem turn_len (l : List UInt8) (at' : Int) (mask size : Nat) : (turn l at' mask size).1.length = l.length := by
  unfold turn
  split
  · rfl
  · exact turns_len _ _ _ _
theorem mul_xor (a b : Nat) : (a ^^^ b) * 256 = (a * 256) ^^^ (b * 256) := by
  have := Nat.shiftLeft_xor_distrib (a := a) (b := b) (i := 8)
  simpa [Nat.shiftLeft_eq] using this
theorem val_set : ∀ (l : List UInt8) (i r : Nat), i < l.length → r < 8 → val (l.set i (l.getD i 0 ^^^ bit r)) = val l ^^^ 2 ^ (8 * i + r)
  | [], i, r, h, _ => by simp at h
  | b :: l, 0, r, _, hr => by
    simp only [List.set_cons_zero, List.getD_cons_zero]; rw [val_cons_xor, val_cons_xor, UInt8.toNat_xor, bit_toNat r hr]; simp only [Nat.mul_zero, Nat.zero_add]
    ac_rfl
  | b :: l, i + 1, r, h, hr => by
    have ih := val_set l i r (by simpa using h) hr; simp only [List.set_cons_succ, List.getD_cons_succ]; rw [val_cons_xor, val_cons_xor, ih]; have e : 2 ^ (8 * (i + 1) + r) = 2 ^ (8 * i + r) * 256 := by rw [show 8 * (i + 1) + r = (8 * i + r) + 8 from by omega, Nat.pow_add]
    rw [e, show (2 : Nat) ^ 8 = 256 from rfl, mul_xor]
    ac_rfl
theorem bitsOf_lt (off mask n : Nat) : ∀ k, bitsOf off mask n k < 2 ^ k
  | 0 => by simp [bitsOf]
  | k + 1 => by
    have := bitsOf_lt off mask n k; simp only [bitsOf]; rw [Nat.pow_succ]
    split <;> omega
theorem val_turns (off mask : Nat) (l : List UInt8) : ∀ k, val (turns off mask l k).1 = val l ^^^ (bitsOf off mask l.length k * 2 ^ off)
  | 0 => by simp [turns, bitsOf]
  | k + 1 => by
    have ih := val_turns off mask l k; have hlt := bitsOf_lt off mask l.length k; simp only [turns, bitsOf]
    by_cases h : hits l.length off k mask
    · rw [if_pos h, if_pos h]; have hi : (off + k) / 8 < (turns off mask l k).1.length := by
        have := h.2; rw [turns_len]; omega
      have e1 : 8 * ((off + k) / 8) + (off + k) % 8 = off + k := by omega
      show val ((turns off mask l k).1.set _ _) = _
      rw [val_set _ _ _ hi (by omega), e1, ih]; have e2 : bitsOf off mask l.length k + 2 ^ k = bitsOf off mask l.length k ^^^ 2 ^ k := by
        have h1 := Nat.two_pow_add_eq_or_of_lt hlt 1; rw [Nat.mul_one] at h1; rw [Nat.add_comm, h1]
        apply Nat.eq_of_testBit_eq
        intro j; rw [Nat.testBit_or, Nat.testBit_xor, Nat.testBit_two_pow]
        by_cases hj : k = j
        · subst hj; simp [Nat.testBit_lt_two_pow hlt]
        · simp [hj]
      have e3 : ∀ a b : Nat, (a ^^^ b) * 2 ^ off = a * 2 ^ off ^^^ b * 2 ^ off := by
        intro a b; have := Nat.shiftLeft_xor_distrib (a := a) (b := b) (i := off)
        simpa [Nat.shiftLeft_eq] using this
      rw [e2, e3, ← Nat.pow_add, Nat.add_comm k off]
      ac_rfl
    · rw [if_neg h, if_neg h]; exact ih
theorem turns_told (off mask : Nat) (l : List UInt8) : ∀ k, (turns off mask l k).2 = (bitsOf off mask l.length k != 0)
  | 0 => by simp [turns, bitsOf]
  | k + 1 => by
    have ih := turns_told off mask l k; simp only [turns, bitsOf]
    by_cases h : hits l.length off k mask
    · rw [if_pos h, if_pos h]; have := Nat.two_pow_pos k; simp
    · rw [if_neg h, if_neg h]; exact ih

/-- bytes of which bits within k + 1 neighbouring ones were turned have another register -/
theorem run_turn {p k : Nat} (hp : 2 ^ k ≤ p) (hp' : p < 2 ^ (k + 1)) (n : Nat) (l : List UInt8) (at' : Int) (mask : Nat) :
    run p n (turn l at' mask (k + 1)).1 = run p n l ↔ (turn l at' mask (k + 1)).2 = false := by
  unfold turn
  by_cases h : at' < 0 ∨ 8 * l.length ≤ at'
  · rw [if_pos h]; simp
  · rw [if_neg h]; rw [burst hp hp' l _ n at'.toNat (bitsOf at'.toNat mask l.length (k + 1)) (turns_len _ _ _ _) (bitsOf_lt _ _ _ _) (by omega) (val_turns _ _ _ _), turns_told]; simp

end Go.Proofs.Ytcnlgcmooegfkaa.Crc
