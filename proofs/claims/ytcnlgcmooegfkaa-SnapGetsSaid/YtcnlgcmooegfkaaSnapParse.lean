/-
  THE BYTES OF A STATE, READ: what snap.Get reads, in plain Lean.
-/
import Derived.Test.YtcnlgcmooegfkaaSnapNext
import Derived.Test.YtcnlgcmooegfkaaMsgGet2
namespace Go.Proofs.Ytcnlgcmooegfkaa
section
open Mg
theorem byte_of_lt (n : Nat) (h : n < 256) : (UInt8.ofNat n).toNat = n := by rw [UInt8.toNat_ofNat', Nat.mod_eq_of_lt h]
theorem gid_idB {i : Mid} (h : chk i = 0) : gid (idB i) = i := by
  have hin := in_of_chk h; obtain ⟨o, d, e, c⟩ := i; obtain ⟨⟨a0, a1⟩, ⟨a2, a3⟩, ⟨a4, a5⟩, a6, a7⟩ := hin; simp only at a0 a1 a2 a3 a4 a5 a6 a7; obtain ⟨x0, rfl⟩ := Int.eq_ofNat_of_zero_le a0; obtain ⟨x1, rfl⟩ := Int.eq_ofNat_of_zero_le a2; obtain ⟨x2, rfl⟩ := Int.eq_ofNat_of_zero_le (show 0 ≤ e by omega); obtain ⟨x3, rfl⟩ := Int.eq_ofNat_of_zero_le (show 0 ≤ c by omega); unfold gid idB; simp only [Int.toNat_natCast, be2, List.cons_append, List.nil_append, nat8, List.getD_cons_zero, List.getD_cons_succ]; rw [byte_of_lt x0 (by omega), byte_of_lt x1 (by omega), byte_of_lt _ (Nat.mod_lt _ (by omega)), byte_of_lt _ (Nat.mod_lt _ (by omega)), byte_of_lt _ (Nat.mod_lt _ (by omega)), byte_of_lt _ (Nat.mod_lt _ (by omega))]
  congr 1 <;> omega
theorem lit6 {α : Type} {l : List α} (h : l.length = 6) : ∃ a b c d e f, l = [a, b, c, d, e, f] := by
  match l, h with
  | [a, b, c, d, e, f], _ => exact ⟨a, b, c, d, e, f, rfl⟩
theorem idB_gid {l : List UInt8} (h : l.length = 6) : idB (gid l) = l := by
  obtain ⟨a, b, c, d, e, f, rfl⟩ := lit6 h; have ha := a.toNat_lt; have hb := b.toNat_lt; have hc := c.toNat_lt; have hd := d.toNat_lt; have he := e.toNat_lt; have hf := f.toNat_lt; have back : ∀ (x : UInt8) (n : Nat), n = x.toNat → UInt8.ofNat n = x := fun x n h => by rw [h]; exact UInt8.ofNat_toNat
  unfold gid idB; simp only [Int.toNat_natCast, be2, List.cons_append, List.nil_append, nat8, List.getD_cons_zero, List.getD_cons_succ]; rw [back a _ rfl, back b _ rfl, back c _ (by omega), back d _ (by omega), back e _ (by omega), back f _ (by omega)]
/-- what was put is got back -/
theorem get_put {i : Mid} {l : List UInt8} (h : chkM i l.length = 0) : getM (idB i ++ l) = i ∧ getD' (idB i ++ l) = l ∧ getE (idB i ++ l) = 0 := by
  obtain ⟨h0, h1, h2⟩ := chk_of_chkM h; have e6 : (idB i ++ l).take 6 = idB i := by rw [← idB_len i]; exact List.take_left
  have d6 : (idB i ++ l).drop 6 = l := by rw [← idB_len i]; exact List.drop_left
  have hg : gok (idB i ++ l) := ⟨by rw [List.length_append, idB_len]; omega, by rw [List.length_append, idB_len]; omega, by rw [e6, gid_idB h0]; exact h0⟩; exact ⟨by rw [getM, if_pos hg, e6, gid_idB h0], by rw [getD', if_pos hg, d6], if_pos hg⟩
end
namespace Sn
open Mg

/-- a place in bytes; have they ended ahead of something that was read? -/
structure Pl where
  at_ : Nat
  bad : Bool
def Pl.step (b : List UInt8) (p : Pl) (size : Nat) : Pl := ⟨p.at_ + size, p.bad || rdF b p.at_ size⟩
def Pl.get (b : List UInt8) (p : Pl) (size : Nat) : Int := (rdV b p.at_ size : Nat)
/-- so many counters -/
def pNx (b : List UInt8) : Nat → Pl → List Nx → Pl × List Nx
  | 0, p, l => (p, l)
  | k + 1, p, l => pNx b k ((p.step b 1).step b 2) (l ++ [⟨p.get b 1, (p.step b 1).get b 2⟩])
/-- the message that bytes are -/
def gms (q : List UInt8) : Ms := ⟨getM q, getD' q⟩
/-- so many messages -/
def pHd (b : List UInt8) : Nat → Pl → List Ms → Option (Pl × List Ms)
  | 0, p, l => some (p, l)
  | k + 1, p, l => if (p.step b 1).bad = true ∨ b.length < (p.step b 1).at_ + rdV b p.at_ 1 then none
    else pHd b k ⟨(p.step b 1).at_ + rdV b p.at_ 1, false⟩ (l ++ [gms ((b.drop (p.step b 1).at_).take (rdV b p.at_ 1))])
/-- so many numbers, as long as there are bytes -/
def pMo (b : List UInt8) : Nat → Pl → List Int → Pl × List Int
  | 0, p, l => (p, l)
  | k + 1, p, l => if p.bad = true then (p, l) else pMo b k (p.step b 2) (l ++ [p.get b 2])
/-- where a mark's further numbers begin; all of a mark -/
def pM4 (b : List UInt8) (p : Pl) : Pl := (((p.step b 1).step b 2).step b 2).step b 2
def pM3 (b : List UInt8) (p : Pl) : Pl := ((p.step b 1).step b 2).step b 2
def pMk (b : List UInt8) (p : Pl) : Pl × Mk :=
  let r := pMo b (rdV b (pM3 b p).at_ 2) (pM4 b p) []
  (r.1, ⟨p.get b 1, (p.step b 1).get b 2, ((p.step b 1).step b 2).get b 2, r.2⟩)
/-- so many marks -/
def pSn (b : List UInt8) : Nat → Pl → List Mk → Option (Pl × List Mk)
  | 0, p, l => some (p, l)
  | k + 1, p, l => if (pMk b p).1.bad = true then none else pSn b k (pMk b p).1 (l ++ [(pMk b p).2])
def p00 : Pl := ⟨0, false⟩
/-- behind the node and the epoch; behind how many counters there are -/
def p02 (b : List UInt8) : Pl := (p00.step b 1).step b 2
def parse3 (b : List UInt8) (s : St) (p : Pl) (k : Nat) : Option St := match pSn b k p [] with
  | none => none
  | some (q, sn) => if q.bad = true ∨ q.at_ ≠ b.length ∨ ck { s with sn := sn } ≠ 0 then none else some { s with sn := sn }
def parse2 (b : List UInt8) (s : St) (p : Pl) (k : Nat) : Option St := match pHd b k p [] with
  | none => none
  | some (q, hd) => parse3 b { s with hd := hd } (q.step b 2) (rdV b q.at_ 2)
def parse (b : List UInt8) : Option St :=
  let r := pNx b (rdV b (p02 b).at_ 1) ((p02 b).step b 1) []
  parse2 b ⟨p00.get b 1, (p00.step b 1).get b 2, r.2, [], []⟩ (r.1.step b 2) (rdV b r.1.at_ 2)
/-- what bytes are -/
def getS (l : List UInt8) : Option St := if l.length < 4 then none else if nval (l.drop (l.length - 4)) ≠ Crc.sum (l.take (l.length - 4)) then none else parse (l.take (l.length - 4))

/-! ### what was read stands there -/
section
variable {b : List UInt8}
theorem lit1 {l : List UInt8} (h : l.length = 1) : ∃ x, l = [x] := by
  match l, h with
  | [x], _ => exact ⟨x, rfl⟩
theorem lit2 {l : List UInt8} (h : l.length = 2) : ∃ x y, l = [x, y] := by
  match l, h with
  | [x, y], _ => exact ⟨x, y, rfl⟩
theorem lit4 {l : List UInt8} (h : l.length = 4) : ∃ x y z u, l = [x, y, z, u] := by
  match l, h with
  | [x, y, z, u], _ => exact ⟨x, y, z, u, rfl⟩
theorem byte_back (x : UInt8) (n : Nat) (h : n = x.toNat) : UInt8.ofNat n = x := by rw [h]; exact UInt8.ofNat_toNat
theorem nval1 {l : List UInt8} (h : l.length = 1) : [UInt8.ofNat (nval l)] = l := by
  obtain ⟨x, rfl⟩ := lit1 h; simp [nval]
theorem nval2 {l : List UInt8} (h : l.length = 2) : be (nval l) 2 = l := by
  obtain ⟨x, y, rfl⟩ := lit2 h; have hx := x.toNat_lt; have hy := y.toNat_lt; have e : nval [x, y] = x.toNat * 256 + y.toNat := by simp [nval]
  rw [e]; simp only [be, beB, Nat.reduceMul, Nat.reducePow, Nat.mul_zero, Nat.pow_zero, Nat.div_one]; rw [byte_back x _ (by omega), byte_back y _ (by omega)]
theorem nval4 {l : List UInt8} (h : l.length = 4) : be (nval l) 4 = l := by
  obtain ⟨x, y, z, u, rfl⟩ := lit4 h; have hx := x.toNat_lt; have hy := y.toNat_lt; have hz := z.toNat_lt; have hu := u.toNat_lt; have e : nval [x, y, z, u] = ((x.toNat * 256 + y.toNat) * 256 + z.toNat) * 256 + u.toNat := by simp [nval]
  rw [e]; simp only [be, beB, Nat.reduceMul, Nat.reducePow, Nat.mul_zero, Nat.pow_zero, Nat.div_one]; rw [byte_back x _ (by omega), byte_back y _ (by omega), byte_back z _ (by omega), byte_back u _ (by omega)]
theorem nval_be1 (n : Nat) (h : n < 256) : nval [UInt8.ofNat n] = n := by
  simp [nval, UInt8.toNat_ofNat', Nat.mod_eq_of_lt h]
theorem nval_be2 (n : Nat) (h : n < 65536) : nval (be n 2) = n := by
  simp only [be, beB, nval, List.foldl_cons, List.foldl_nil, Nat.reduceMul, Nat.reducePow, Nat.mul_zero, Nat.pow_zero, Nat.div_one, UInt8.toNat_ofNat', Nat.mod_mod]; omega
theorem nval_be4 (n : Nat) (h : n < 4294967296) : nval (be n 4) = n := by
  simp only [be, beB, nval, List.foldl_cons, List.foldl_nil, Nat.reduceMul, Nat.reducePow, Nat.mul_zero, Nat.pow_zero, Nat.div_one, UInt8.toNat_ofNat', Nat.mod_mod]; omega
theorem step_ok {p : Pl} {k : Nat} (h : (p.step b k).bad = false) : p.bad = false ∧ p.at_ + k ≤ b.length := by
  simp only [Pl.step, rdF, Bool.or_eq_false_iff, decide_eq_false_iff_not] at h; exact ⟨h.1, by omega⟩
theorem rd_len {n k : Nat} (h : n + k ≤ b.length) : ((b.drop n).take k).length = k := by
  rw [List.length_take, List.length_drop]; omega
theorem take1 {p : Pl} (h : (p.step b 1).bad = false) : b.take (p.step b 1).at_ = b.take p.at_ ++ [b1 (p.get b 1)] := by
  have h2 := (step_ok h).2
  show b.take (p.at_ + 1) = _
  rw [List.take_add, b1, Pl.get, rdV, if_pos h2, Int.toNat_natCast, nval1 (rd_len h2)]
theorem take2 {p : Pl} (h : (p.step b 2).bad = false) : b.take (p.step b 2).at_ = b.take p.at_ ++ be (p.get b 2).toNat 2 := by
  have h2 := (step_ok h).2
  show b.take (p.at_ + 2) = _
  rw [List.take_add, Pl.get, rdV, if_pos h2, Int.toNat_natCast, nval2 (rd_len h2)]
theorem pNx_ok : ∀ (k : Nat) (p : Pl) (l : List Nx), (pNx b k p l).1.bad = false → ∃ new, (pNx b k p l).2 = l ++ new ∧ new.length = k ∧ p.bad = false ∧ b.take (pNx b k p l).1.at_ = b.take p.at_ ++ nxsB new
  | 0, p, l, h => ⟨[], by simp [pNx], rfl, h, by simp [pNx, nxsB]⟩
  | k + 1, p, l, h => by
    rw [pNx] at h ⊢; obtain ⟨new, h1, h2, h3, h4⟩ := pNx_ok k _ _ h; have h5 := (step_ok h3).1; refine ⟨⟨p.get b 1, (p.step b 1).get b 2⟩ :: new, by rw [h1]; simp, by simp [h2], (step_ok h5).1, ?_⟩; rw [h4, take2 h3, take1 h5]; simp [nxsB, nxB]
theorem gms_ok {q : List UInt8} (h : chkM (gms q).i (gms q).l.length = 0) (hq : q.length < 256) : msB (gms q) = UInt8.ofNat q.length :: q := by
  have hg : gok q := by
    by_cases hg : gok q
    · exact hg
    · exfalso
      have : (gms q).i = mid0 := if_neg hg; rw [this] at h; simp [chkM, chk, mid0, In] at h
  have h6 : (q.take 6).length = 6 := by rw [List.length_take]; have := hg.1; omega
  have e1 : (gms q).i = gid (q.take 6) := if_pos hg; have e2 : (gms q).l = q.drop 6 := if_pos hg; rw [msB, e1, e2, idB_gid h6, List.take_append_drop, List.length_drop, show 6 + (q.length - 6) = q.length by have := hg.1; omega]
theorem pHd_ok : ∀ (k : Nat) (p : Pl) (l : List Ms) (p' : Pl) (l' : List Ms), pHd b k p l = some (p', l') → p'.bad = false → ∃ new, l' = l ++ new ∧ new.length = k ∧ p.bad = false ∧ ((∀ m ∈ new, chkM m.i m.l.length = 0) → b.take p'.at_ = b.take p.at_ ++ mssB new)
  | 0, p, l, p', l', h, hb => by
    simp only [pHd, Option.some.injEq, Prod.mk.injEq] at h; obtain ⟨rfl, rfl⟩ := h; exact ⟨[], by simp, rfl, hb, by simp [mssB]⟩
  | k + 1, p, l, p', l', h, hb => by
    rw [pHd] at h
    split at h
    · cases h
    rename_i hn
    have hn1 : (p.step b 1).bad = false := by simpa using fun h => hn (.inl h)
    have hn2 : (p.step b 1).at_ + rdV b p.at_ 1 ≤ b.length := by omega
    obtain ⟨new, h1, h2, _, h4⟩ := pHd_ok k _ _ _ _ h hb; refine ⟨gms ((b.drop (p.step b 1).at_).take (rdV b p.at_ 1)) :: new, by rw [h1]; simp, by simp [h2], (step_ok hn1).1, fun hm => ?_⟩; rw [h4 fun m hm' => hm m (List.mem_cons_of_mem _ hm')]
    show b.take ((p.step b 1).at_ + rdV b p.at_ 1) ++ _ = _
    have hlen := rd_len hn2; have hv : rdV b p.at_ 1 < 256 := by
      unfold rdV
      split
      · have := nval_lt ((b.drop p.at_).take 1); have h9 : 256 ^ ((b.drop p.at_).take 1).length ≤ 256 ^ 1 := Nat.pow_le_pow_right (by omega) (by rw [List.length_take]; omega); omega
      · omega
    rw [List.take_add, take1 hn1]; have e := gms_ok (hm _ (List.mem_cons_self ..)) (by rw [hlen]; exact hv); have e2 : mssB (gms ((b.drop (p.step b 1).at_).take (rdV b p.at_ 1)) :: new) = msB (gms ((b.drop (p.step b 1).at_).take (rdV b p.at_ 1))) ++ mssB new := by simp [mssB]
    rw [e2, e, hlen]; simp [b1, Pl.get]
theorem pMo_ok : ∀ (k : Nat) (p : Pl) (l : List Int), (pMo b k p l).1.bad = false → ∃ new, (pMo b k p l).2 = l ++ new ∧ new.length = k ∧ p.bad = false ∧ b.take (pMo b k p l).1.at_ = b.take p.at_ ++ beL new
  | 0, p, l, h => ⟨[], by simp [pMo], rfl, h, by simp [pMo, beL]⟩
  | k + 1, p, l, h => by
    rw [pMo] at h ⊢
    split at h
    · rename_i hb
      rw [hb] at h
      cases h
    rename_i hb
    rw [if_neg hb]; obtain ⟨new, h1, h2, h3, h4⟩ := pMo_ok k _ _ h; refine ⟨p.get b 2 :: new, by rw [h1]; simp, by simp [h2], (step_ok h3).1, ?_⟩; rw [h4, take2 h3]; simp [beL]
theorem pMk_ok {p : Pl} (h : (pMk b p).1.bad = false) : p.bad = false ∧ b.take (pMk b p).1.at_ = b.take p.at_ ++ mkB (pMk b p).2 := by
  obtain ⟨new, h1, h2, h3, h4⟩ := pMo_ok _ _ _ h; have g3 := (step_ok h3).1; have g2 := (step_ok g3).1; have g1 := (step_ok g2).1; refine ⟨(step_ok g1).1, ?_⟩
  show b.take (pMo b _ _ []).1.at_ = _
  rw [h4]; unfold pM4; rw [take2 h3, take2 g3, take2 g2, take1 g1]; simp only [pMk, mkB, h1, List.nil_append, h2, beL]; simp [Pl.get, pM3]
theorem pSn_ok : ∀ (k : Nat) (p : Pl) (l : List Mk) (p' : Pl) (l' : List Mk), pSn b k p l = some (p', l') → p'.bad = false → ∃ new, l' = l ++ new ∧ new.length = k ∧ p.bad = false ∧ b.take p'.at_ = b.take p.at_ ++ mksB new
  | 0, p, l, p', l', h, hb => by
    simp only [pSn, Option.some.injEq, Prod.mk.injEq] at h; obtain ⟨rfl, rfl⟩ := h; exact ⟨[], by simp, rfl, hb, by simp [mksB]⟩
  | k + 1, p, l, p', l', h, hb => by
    rw [pSn] at h
    split at h
    · cases h
    rename_i hn
    obtain ⟨h5, h6⟩ := pMk_ok (b := b) (p := p) (by simpa using hn); obtain ⟨new, h1, h2, _, h4⟩ := pSn_ok k _ _ _ _ h hb; refine ⟨(pMk b p).2 :: new, by rw [h1]; simp, by simp [h2], h5, ?_⟩; rw [h4, h6]; simp [mksB]
theorem parse_ok {s : St} (h : parse b = some s) : Ok s ∧ bodyB s = b := by
  unfold parse at h; simp only at h; unfold parse2 at h
  cases hh : pHd b (rdV b (pNx b (rdV b (p02 b).at_ 1) ((p02 b).step b 1) []).1.at_ 2) ((pNx b (rdV b (p02 b).at_ 1) ((p02 b).step b 1) []).1.step b 2) [] with
  | none => rw [hh] at h; cases h
  | some r =>
    obtain ⟨q6, hd⟩ := r; rw [hh] at h; simp only [parse3] at h
    cases hs : pSn b (rdV b q6.at_ 2) (q6.step b 2) [] with
    | none => rw [hs] at h; cases h
    | some r =>
      obtain ⟨q8, sn⟩ := r; rw [hs] at h; simp only at h
      split at h
      · cases h
      rename_i hn
      injection h with h
      have hb8 : q8.bad = false := by simpa using fun h => hn (.inl h)
      have ha8 : q8.at_ = b.length := Decidable.not_not.1 fun h => hn (.inr (.inl h))
      have hck := (ck_ok _).1 (Decidable.not_not.1 fun h => hn (.inr (.inr h))); rw [← h]; refine ⟨hck, ?_⟩; have hap := hck.ap; obtain ⟨ns, s1, s2, s3, s4⟩ := pSn_ok _ _ _ _ _ hs hb8; have g6 := (step_ok s3).1; obtain ⟨nh, t1, t2, t3, t4⟩ := pHd_ok _ _ _ _ _ hh g6; have g4 := (step_ok t3).1; obtain ⟨nn, u1, u2, u3, u4⟩ := pNx_ok _ _ _ g4; have g2 := (step_ok u3).1; have g1 := (step_ok g2).1; rw [List.nil_append] at s1 t1 u1; subst s1 t1; simp only at hap; have t4 := t4 fun m hm => appB_in hap m hm
      rw [take2 s3, t4, take2 t3, u4, take1 u3] at s4; unfold p02 at s4; rw [take2 g2, take1 g1, ha8, List.take_length] at s4; refine Eq.trans ?_ s4.symm; simp only [bodyB, preB, u1]; simp [beL, t2, s2, u2, b1, p00, p02, Pl.get]
end

/-! ### what stands there is read -/
section
variable {b : List UInt8}
theorem at1 {n : Nat} {x : Int} {post : List UInt8} (h0 : 0 ≤ x) (h1 : x ≤ 255) (h : b.drop n = b1 x :: post) : Pl.get b ⟨n, false⟩ 1 = x ∧ (rdV b n 1 : Int) = x ∧ Pl.step b ⟨n, false⟩ 1 = ⟨n + 1, false⟩ ∧ b.drop (n + 1) = post ∧ n + 1 ≤ b.length := by
  have hl : n + 1 ≤ b.length := by
    have := congrArg List.length h; rw [List.length_drop, List.length_cons] at this; omega
  have e : rdV b n 1 = x.toNat := by
    rw [rdV, if_pos hl, h, List.take_succ_cons, List.take_zero, b1, nval_be1 _ (by omega)]
  have e2 : (rdV b n 1 : Int) = x := by rw [e]; omega
  refine ⟨e2, e2, ?_, ?_, hl⟩
  · simp only [Pl.step, rdF, Bool.false_or, decide_eq_false (show ¬ b.length < n + 1 by omega)]
  · rw [← List.drop_drop, h]; rfl
theorem at2 {n : Nat} {x : Int} {post : List UInt8} (h0 : 0 ≤ x) (h1 : x ≤ 65535) (h : b.drop n = be x.toNat 2 ++ post) : Pl.get b ⟨n, false⟩ 2 = x ∧ (rdV b n 2 : Int) = x ∧ Pl.step b ⟨n, false⟩ 2 = ⟨n + 2, false⟩ ∧ b.drop (n + 2) = post ∧ n + 2 ≤ b.length := by
  have hl : n + 2 ≤ b.length := by
    have := congrArg List.length h; rw [List.length_drop, List.length_append, be_len] at this; omega
  have ht : (be x.toNat 2 ++ post).take 2 = be x.toNat 2 := by rw [← be_len x.toNat 2]; simp [be_len]
  have hd : (be x.toNat 2 ++ post).drop 2 = post := by rw [← be_len x.toNat 2]; simp [be_len]
  have e : rdV b n 2 = x.toNat := by
    rw [rdV, if_pos hl, h, ht, nval_be2 _ (by omega)]
  have e2 : (rdV b n 2 : Int) = x := by rw [e]; omega
  refine ⟨e2, e2, ?_, ?_, hl⟩
  · simp only [Pl.step, rdF, Bool.false_or, decide_eq_false (show ¬ b.length < n + 2 by omega)]
  · rw [← List.drop_drop, h, hd]
theorem pNx_put : ∀ (nx : List Nx) (n : Nat) (l : List Nx) (post : List UInt8), n ≤ b.length → (∀ x ∈ nx, (0 ≤ x.d ∧ x.d ≤ 255) ∧ 0 ≤ x.c ∧ x.c ≤ 65535) → b.drop n = nxsB nx ++ post → ∃ n', pNx b nx.length ⟨n, false⟩ l = (⟨n', false⟩, l ++ nx) ∧ b.drop n' = post ∧ n' ≤ b.length
  | [], n, l, post, hl, _, h => ⟨n, by simp [pNx], by simpa [nxsB] using h, hl⟩
  | x :: r, n, l, post, hl, hx, h => by
    obtain ⟨hd, hc⟩ := hx x (List.mem_cons_self ..); have e1 : nxsB (x :: r) ++ post = b1 x.d :: (be x.c.toNat 2 ++ (nxsB r ++ post)) := by simp [nxsB, nxB]
    rw [e1] at h; obtain ⟨a1, a2, a3, a4, a5⟩ := at1 hd.1 hd.2 h; obtain ⟨c1, c2, c3, c4, c5⟩ := at2 hc.1 hc.2 a4; obtain ⟨n', h1, h2, h3⟩ := pNx_put r (n + 1 + 2) (l ++ [x]) post c5 (fun y hy => hx y (List.mem_cons_of_mem _ hy)) c4; refine ⟨n', ?_, h2, h3⟩; rw [List.length_cons, pNx, a3, c3, a1, c1, h1]; simp
theorem gms_put {m : Ms} (h : chkM m.i m.l.length = 0) : gms (idB m.i ++ m.l) = m := by
  obtain ⟨h1, h2, _⟩ := get_put h; obtain ⟨i, l⟩ := m; simp only at h1 h2; rw [gms, h1, h2]
theorem pHd_put : ∀ (hd : List Ms) (n : Nat) (l : List Ms) (post : List UInt8), n ≤ b.length → (∀ m ∈ hd, chkM m.i m.l.length = 0) → b.drop n = mssB hd ++ post → ∃ n', pHd b hd.length ⟨n, false⟩ l = some (⟨n', false⟩, l ++ hd) ∧ b.drop n' = post ∧ n' ≤ b.length
  | [], n, l, post, hl, _, h => ⟨n, by simp [pHd], by simpa [mssB] using h, hl⟩
  | m :: r, n, l, post, hl, hx, h => by
    have hm := hx m (List.mem_cons_self ..); have hn := (chkM_in hm).2.2; have e1 : mssB (m :: r) ++ post = b1 ((6 + m.l.length : Nat) : Int) :: ((idB m.i ++ m.l) ++ (mssB r ++ post)) := by
      rw [b1, Int.toNat_natCast]; simp [mssB, msB, -UInt8.ofNat_add]
    rw [e1] at h; obtain ⟨a1, a2, a3, a4, a5⟩ := at1 (by omega) (by omega) h; have a2 : rdV b n 1 = 6 + m.l.length := by omega
    have hq : (idB m.i ++ m.l).length = 6 + m.l.length := by rw [List.length_append, idB_len]
    have hle : n + 1 + (6 + m.l.length) ≤ b.length := by
      have := congrArg List.length a4; rw [List.length_drop, List.length_append, hq] at this; omega
    have a6 : b.drop (n + 1 + (6 + m.l.length)) = mssB r ++ post := by
      rw [← List.drop_drop, a4, ← hq, List.drop_left]
    have a7 : (b.drop (n + 1)).take (6 + m.l.length) = idB m.i ++ m.l := by rw [a4, ← hq, List.take_left]
    obtain ⟨n', h1, h2, h3⟩ := pHd_put r _ (l ++ [m]) post hle (fun y hy => hx y (List.mem_cons_of_mem _ hy)) a6; refine ⟨n', ?_, h2, h3⟩; rw [List.length_cons, pHd, a3]
    show (if _ ∨ b.length < n + 1 + rdV b n 1 then _ else pHd b r.length ⟨n + 1 + rdV b n 1, false⟩ (l ++ [gms ((b.drop (n + 1)).take (rdV b n 1))])) = _
    rw [a2, a7, gms_put hm, if_neg (by rintro (h | h); · cases h
                                       · omega), h1]
    simp
theorem pMo_put : ∀ (ms : List Int) (n : Nat) (l : List Int) (post : List UInt8), n ≤ b.length → (∀ x ∈ ms, 0 ≤ x ∧ x ≤ 65535) → b.drop n = beL ms ++ post → ∃ n', pMo b ms.length ⟨n, false⟩ l = (⟨n', false⟩, l ++ ms) ∧ b.drop n' = post ∧ n' ≤ b.length
  | [], n, l, post, hl, _, h => ⟨n, by simp [pMo], by simpa [beL] using h, hl⟩
  | x :: r, n, l, post, hl, hx, h => by
    have hc := hx x (List.mem_cons_self ..); have e1 : beL (x :: r) ++ post = be x.toNat 2 ++ (beL r ++ post) := by simp [beL]
    rw [e1] at h; obtain ⟨c1, c2, c3, c4, c5⟩ := at2 hc.1 hc.2 h; obtain ⟨n', h1, h2, h3⟩ := pMo_put r (n + 2) (l ++ [x]) post c5 (fun y hy => hx y (List.mem_cons_of_mem _ hy)) c4; refine ⟨n', ?_, h2, h3⟩; rw [List.length_cons, pMo, if_neg (by simp), c3, c1, h1]; simp
theorem pMk_put {m : Mk} {n : Nat} {post : List UInt8} (hr : rightB m = true) (hg : m.m.length ≤ 65535) (h : b.drop n = mkB m ++ post) : ∃ n', pMk b ⟨n, false⟩ = (⟨n', false⟩, m) ∧ b.drop n' = post ∧ n' ≤ b.length := by
  obtain ⟨ho, he, hu, hm, _⟩ := rightB_in hr; obtain ⟨o, e, u, ms⟩ := m; simp only at ho he hu hm hg; have e1 : mkB ⟨o, e, u, ms⟩ ++ post = b1 o :: (be e.toNat 2 ++ (be u.toNat 2 ++ (be ((ms.length : Nat) : Int).toNat 2 ++ (beL ms ++ post)))) := by simp [mkB, beL]
  rw [e1] at h; obtain ⟨a1, a2, a3, a4, a5⟩ := at1 (by omega) (by omega) h; obtain ⟨b1, b2, b3, b4, b5⟩ := at2 (by omega) (by omega) a4; obtain ⟨c1, c2, c3, c4, c5⟩ := at2 (by omega) (by omega) b4; obtain ⟨d1, d2, d3, d4, d5⟩ := at2 (x := ((ms.length : Nat) : Int)) (by omega) (by omega) c4; have d2 : rdV b (n + 1 + 2 + 2) 2 = ms.length := by omega
  obtain ⟨n', h1, h2, h3⟩ := pMo_put ms _ [] post d5 (fun x hx => by have := moreB_in hm x hx; omega) d4; refine ⟨n', ?_, h2, h3⟩; simp only [pMk, pM3, pM4, a3, b3, c3, d3, a1, b1, c1, d2, h1, List.nil_append]
theorem pSn_put : ∀ (sn : List Mk) (n : Nat) (l : List Mk) (post : List UInt8), n ≤ b.length → (∀ m ∈ sn, rightB m = true ∧ m.m.length ≤ 65535) → b.drop n = mksB sn ++ post → ∃ n', pSn b sn.length ⟨n, false⟩ l = some (⟨n', false⟩, l ++ sn) ∧ b.drop n' = post ∧ n' ≤ b.length
  | [], n, l, post, hl, _, h => ⟨n, by simp [pSn], by simpa [mksB] using h, hl⟩
  | m :: r, n, l, post, hl, hx, h => by
    have hm := hx m (List.mem_cons_self ..); have e1 : mksB (m :: r) ++ post = mkB m ++ (mksB r ++ post) := by simp [mksB]
    rw [e1] at h; obtain ⟨n1, a1, a2, a3⟩ := pMk_put hm.1 hm.2 h; obtain ⟨n', h1, h2, h3⟩ := pSn_put r n1 (l ++ [m]) post a3 (fun y hy => hx y (List.mem_cons_of_mem _ hy)) a2; refine ⟨n', ?_, h2, h3⟩; rw [List.length_cons, pSn, a1, if_neg (by simp), h1]; simp
theorem gaps_in : ∀ {l : List Mk} {m : Mk}, m ∈ l → m.m.length ≤ gaps l
  | x :: r, m, h => by
    have e : gaps (x :: r) = x.m.length + gaps r := by simp [gaps]
    rcases List.mem_cons.1 h with rfl | h
    · omega
    · have := gaps_in h; omega
theorem parse_put {s : St} (h : Ok s) : parse (bodyB s) = some s := by
  obtain ⟨b, hb⟩ : ∃ b, b = bodyB s := ⟨_, rfl⟩; rw [← hb]; have h1 := h.nxl; have h2 := h.hd; have h3 := h.sn; have hse := h.self; have hep := h.ep; have hd0 : b.drop 0 = b1 s.self :: (be s.ep.toNat 2 ++ (b1 (s.nx.length : Int) :: (nxsB s.nx ++ (be (s.hd.length : Int).toNat 2 ++ (mssB s.hd ++ (be (s.sn.length : Int).toNat 2 ++ (mksB s.sn ++ []))))))) := by
    rw [hb, bodyB, preB]; simp [beL, b1]
  obtain ⟨a1, a2, a3, a4, a5⟩ := at1 (by omega) (by omega) hd0; obtain ⟨b1, b2, b3, b4, b5⟩ := at2 (by omega) (by omega) a4; obtain ⟨c1, c2, c3, c4, c5⟩ := at1 (x := (s.nx.length : Int)) (by omega) (by omega) b4; have c2 : rdV b (0 + 1 + 2) 1 = s.nx.length := by omega
  have hnx := nextB_in h.nx; have hnc := nextB_c h.nx; obtain ⟨n4, d1, d2, d3⟩ := pNx_put s.nx _ [] _ c5 (fun x hx => by have := hnx x hx; have := hnc x hx; omega) c4; obtain ⟨e1, e2, e3, e4, e5⟩ := at2 (x := (s.hd.length : Int)) (by omega) (by omega) d2; have e2 : rdV b n4 2 = s.hd.length := by omega
  obtain ⟨n6, f1, f2, f3⟩ := pHd_put s.hd _ [] _ e5 (fun m hm => appB_in h.ap m hm) e4; obtain ⟨g1, g2, g3, g4, g5⟩ := at2 (x := (s.sn.length : Int)) (by omega) (by omega) f2; have g2 : rdV b n6 2 = s.sn.length := by omega
  obtain ⟨n8, k1, k2, k3⟩ := pSn_put s.sn _ [] _ g5 (fun m hm => ⟨marksB_in h.mks m hm, by have := gaps_in hm; have := h.gaps; omega⟩) g4; have hn8 : n8 = b.length := by
    have := congrArg List.length k2; rw [List.length_drop, List.length_nil] at this; omega
  have hck := (ck_ok s).2 h; unfold parse p02 p00; simp only [a3, b3, c3, c2, d1, e2, e3, a1, b1, List.nil_append]; simp only [parse2, f1, List.nil_append, parse3, g2, g3, k1]; rw [if_neg]; rintro (h | h | h)
  · cases h
  · exact h hn8
  · exact h hck
end
theorem nval_putB (s : St) : nval (be (Crc.sum (bodyB s)) 4) = Crc.sum (bodyB s) := nval_be4 _ (by rw [Crc.sum]; omega)
/-- THE LAW: what bytes are -/
theorem getS_iff (l : List UInt8) (s : St) : getS l = some s ↔ Ok s ∧ putB s = l := by
  unfold getS
  constructor
  · intro h
    split at h
    · cases h
    rename_i h4
    split at h
    · cases h
    rename_i hs
    obtain ⟨h1, h2⟩ := parse_ok h; refine ⟨h1, ?_⟩; have hs := Decidable.not_not.1 hs; rw [putB, h2, ← hs, nval4 (by rw [List.length_drop]; omega), List.take_append_drop]
  · rintro ⟨h, rfl⟩; have hl : (putB s).length = (bodyB s).length + 4 := by rw [putB, List.length_append, be_len]
    have ht : (putB s).take ((putB s).length - 4) = bodyB s := by rw [hl, Nat.add_sub_cancel, putB, List.take_left]
    have hd : (putB s).drop ((putB s).length - 4) = be (Crc.sum (bodyB s)) 4 := by rw [hl, Nat.add_sub_cancel, putB, List.drop_left]
    rw [ht, hd, if_neg (by omega), if_neg (by rw [nval_putB]; simp), parse_put h]
end Sn
end Go.Proofs.Ytcnlgcmooegfkaa
