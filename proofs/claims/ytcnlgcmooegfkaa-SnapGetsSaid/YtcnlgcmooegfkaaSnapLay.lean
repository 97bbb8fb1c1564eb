/-
  NUMBERS IN BYTES: the walk of snap.lay.
-/
import Derived.Test.YtcnlgcmooegfkaaSnapPut4
import Derived.Test.YtcnlgcmooegfkaaSnapMem
import Derived.Test.YtcnlgcmooegfkaaMsgPuts
namespace Go.Proofs.Ytcnlgcmooegfkaa
open Go.RowKit Mg Sn

/-- numbers of two bytes each -/
def beL (ns : List Int) : List UInt8 := (ns.map fun x => be x.toNat 2).flatten
theorem beL_len (ns : List Int) : (beL ns).length = 2 * ns.length := by
  induction ns with
  | nil => rfl
  | cons x r ih =>
    have : beL (x :: r) = be x.toNat 2 ++ beL r := by simp [beL]
    rw [this, List.length_append, ih, be_len, List.length_cons]; omega
theorem beL_snoc (ns : List Int) (x : Int) : beL (ns ++ [x]) = beL ns ++ be x.toNat 2 := by simp [beL]

set_option maxHeartbeats 4000000 in
theorem lay_any (A : Option Addr) (m c : Nat) (l : List UInt8) (Al : Option Addr) (nl cl : Nat) (ns : List Int) (B Bl : Nat) (w : World) (hO : OwnB w B 5 (.slice A m c) l) (hlen : l.length = m) (hB : B ≤ w.heap.size) (hR : RdE EInt 1 w Bl Al nl cl ns) (hx : ∀ x ∈ ns, 0 ≤ x ∧ x ≤ 65535) (hm : m + 2 * nl ≤ 1000000000000) :
    Calls Try.prog 21 #[.slice A m c, .slice Al nl cl] w fun e w' => ∃ A' c', e = .returned (.slice A' (m + 2 * nl) c') ∧ OwnB w' B 5 (.slice A' (m + 2 * nl) c') (l ++ beL ns) ∧ Below w.heap.size w w' := by
  have HO := Lib.hid hO; have HL := Lib.hid hlen; have HR := Lib.hid hR; have HX := Lib.hid hx; have hbig := hR.big; clear hO hR hx hlen
  go_enter Try.func21, Try.ntmps21
  go_wp2_with fail
  go_loopw [9, 0] (fun i v wr => ∃ (k : Nat) (A' : Option Addr) (c' : Nat), i = .int .i64 k ∧ k ≤ nl ∧ v = .slice A' (m + 2 * k) c' ∧ Hid (OwnB wr B 5 (.slice A' (m + 2 * k) c') (l ++ beL (ns.take k)) ∧ Below w.heap.size w wr)) (fun i _ _ => nl - (intOf i).toNat)
  case atStart => exact ⟨0, A, c, rfl, Nat.zero_le _, by simp, by simpa [beL] using HO.out, Below.refl _ _⟩
  case round =>
    obtain ⟨k, A', c', rfl, hk, rfl, hO, hb⟩ := hrel; have HO1 := Lib.hid hO; have HB1 := Lib.hid hb; have hzr := hb.size; clear hO hb; have hlk : (l ++ beL (ns.take k)).length = m + 2 * k := by
      have h1 := HL.out; have h2 := HR.out.len; rw [List.length_append, beL_len, List.length_take, Nat.min_eq_left (by omega), h1]
    have HLK := Lib.hid hlk; clear hlk
    by_cases hlt : k < nl
    · obtain ⟨b, off, x, cs, rfl, hBl, hbl, hx, hcs, hlen, hcell⟩ := (HR.out.below keeps_int HB1.out).at' hlt; unfold EInt at hcs; subst hcs; have c0 := hcell 0 _ rfl; rw [Nat.add_zero, Nat.mul_one] at c0; have hxb := HX.out x (List.mem_of_getElem? hx); obtain ⟨X, rfl⟩ : ∃ X : Nat, x = X := ⟨x.toNat, (Int.toNat_of_nonneg hxb.1).symm⟩; have hX : X < 65536 := by omega
      have hXm : (X : Int) % 18446744073709551616 = (X : Int) := by omega
      have HXX := Lib.hid hx; clear hcell hlen hx hxb
      go_wp2_with fail
      refine (bput2 A' (m + 2 * k) c' _ X wr (OwnB.rd HO1.out HLK.out (by omega)) (by omega) hX).mono ?_; rintro e9 w9 ⟨A9, c9, rfl, ho9, hb9⟩; have htk : ns.take (k + 1) = ns.take k ++ [(X : Int)] := by rw [List.take_add_one, HXX.out]; rfl
      have HO9 : Hid (OwnB w9 B 5 (.slice A9 (m + 2 * (k + 1)) c9) (l ++ beL (ns.take (k + 1)))) := by
        show OwnB _ _ _ _ _
        rw [htk, beL_snoc, Int.toNat_natCast, ← List.append_assoc]; exact row_base6 ho9 (by omega)
      have HB9 := Lib.hid (HB1.out.trans (hb9.mono hzr)); clear ho9 hb9 htk
      go_wp2_with fail
      exact ⟨⟨k + 1, A9, c9, by simp, by omega, rfl, HO9.out, HB9.out⟩, by simp only [intOf]; omega⟩
    · have hkn : k = nl := by omega
      subst hkn; have htn : ns.take k = ns := List.take_of_length_le (by have := HR.out.len; omega); have ho := HO1.out; rw [htn] at ho; have HO2 := Lib.hid ho; clear ho htn
      go_wp2_with fail
      go_ret
      exact ⟨A', c', rfl, HO2.out, HB1.out⟩
end Go.Proofs.Ytcnlgcmooegfkaa
