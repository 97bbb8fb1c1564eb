/-
  play, WHATEVER THE CALL: the two lines go on side by side.
-/
import Derived.Test.YtgiboekjjnmnnaaPlayTake
namespace Go.Proofs.Ytgiboekjjnmnnaa
open Go.RowKit

theorem u8_byte (z : Int) : ∃ b : UInt8, IntKind.u8.wrap z = (b.toNat : Int) := by
  have e : IntKind.u8.wrap z = z % 256 := by simp [IntKind.wrap, IntKind.bits, IntKind.signed]
  rw [e]
  refine ⟨UInt8.ofNat (z % 256).toNat, ?_⟩
  rw [UInt8.toNat_ofNat', Nat.mod_eq_of_lt (by omega)]
  omega

section
variable {w0 w : World} {g : Nat} {dl nw : Int} {n : Nat} {P D : Value} {p : List UInt8} {due : List Int} {A : Option Addr} {c : Nat}

theorem mem_cut {due : List Int} {k m : Nat} {d : Int} (h : d ∈ due.take k ++ due.drop m) : d ∈ due := by
  rcases List.mem_append.1 h with h | h
  · exact List.mem_of_mem_take h
  · exact List.mem_of_mem_drop h

theorem play_any (h : Both w0 g dl nw n P D p due A n c (ways nw p due) w) (hn : n ≤ 65536) (hd : ∀ d ∈ due, d ≤ nw + 64) (h0 : 0 ≤ nw) (h1 : nw ≤ 1000) (hd0 : 0 ≤ dl) (hd1 : dl ≤ 64)
    (kind at_ num : Int) (Aa : Option Addr) (na ca : Nat) (l : List UInt8) (hR : Rd w Aa na ca l) (hna : na ≤ 3000) :
    Calls Try.prog 14 #[.pointer (some ⟨g, 0, none⟩), .agg #[.int .i64 dl, .slice A n c], .agg #[.int .i64 kind, .int .i64 at_, .int .i64 num, .slice Aa na ca]] w (Plays w0 g dl nw P D A n w) := by
  have hpl := h.ln.plen
  have hdl := h.ln.dlen
  have hpd : p.length = due.length := by omega
  have hwl := ways_len (nw := nw) hpd
  by_cases k0 : kind = 0
  · subst k0
    by_cases hf : n + na ≤ 65536
    · refine play_put w0 w h at_ num Aa na ca l hR (by omega) 0 (n + na) (ways nw (p ++ l) (due ++ List.replicate na (nw + dl))) (n + na) (p ++ l) (due ++ List.replicate na (nw + dl)) ?_ ?_ rfl rfl hf ?_
      · intro ps hB hRp
        refine (rput_any ps dl A n c (ways nw p due) hB.rd hB.wl Aa na ca l hRp hf).mono ?_
        rintro e w' ⟨A2, c2, rfl, ho, hb⟩
        have e1 : ways nw p due ++ l.map (·, dl) = ways nw (p ++ l) (due ++ List.replicate na (nw + dl)) := by rw [ways_append hpd, ← hR.len, ways_put hd0]
        rw [e1] at ho
        exact ⟨A2, c2, rfl, hB.row hb ho (by rw [← e1, List.length_append, List.length_map, hwl, hpl, hR.len]) (by omega), fun r h1 h2 => h1.row h2 ho, hb⟩
      · intro w1 A3 c3 hL hw hR3
        refine (put_any w1 hL hw h0 (by omega) hd0 hd1 hR3 hf).mono ?_
        rintro e w' ⟨P2, D2, rfl, H, hk, aP, aD⟩
        exact ⟨P2, D2, rfl, H, hk, aP, aD⟩
      · intro d hdm
        rcases List.mem_append.1 hdm with hdm | hdm
        · exact hd d hdm
        · have := List.eq_of_mem_replicate hdm
          omega
    · refine play_put w0 w h at_ num Aa na ca l hR (by omega) 6 n (ways nw p due) n p due ?_ ?_ rfl rfl hn hd
      · intro ps hB hRp
        refine (rput_full ps dl A n c Aa na ca hn (by omega) (by omega)).mono ?_
        rintro e w' ⟨rfl, hb⟩
        exact ⟨A, c, rfl, hB.grow hb, fun r h1 _ => h1, hb⟩
      · intro w1 A3 c3 hL hw hR3
        refine (put_full w1 hL hn (by omega)).mono ?_
        rintro e w' ⟨rfl, rfl⟩
        exact ⟨P, D, rfl, hL, Kept.refl _ _, Anew.refl _ _, Anew.refl _ _⟩
  by_cases k1 : kind = 1
  · subst k1
    exact play_tick w0 w h hn hd h0 h1 at_ num Aa na ca
  by_cases k2 : kind = 2
  · subst k2
    exact play_take w0 w h hn hd at_ num Aa na ca
  by_cases k3 : kind = 3
  · subst k3
    by_cases hr : at_ < 0 ∨ num < 0 ∨ (n : Int) < at_ ∨ (n : Int) - at_ < num
    · refine play_drop w0 w h at_ num Aa na ca 1 n (ways nw p due) n p due ?_ ?_ rfl rfl hn hd
      · intro ps hB
        refine (rdrop_range ps dl A n c hn at_ num hr).mono ?_
        rintro e w' ⟨rfl, hb⟩
        exact ⟨A, c, rfl, hB.grow hb, fun r h _ => h, hb⟩
      · intro w1 hL hw
        refine (drop_range w1 hL hn at_ num hr).mono ?_
        rintro e w' ⟨rfl, rfl⟩
        exact ⟨P, D, rfl, hL, Kept.refl _ _, Anew.refl _ _, Anew.refl _ _⟩
    · obtain ⟨k, rfl⟩ : ∃ k : Nat, at_ = k := ⟨at_.toNat, by omega⟩
      obtain ⟨m, rfl⟩ : ∃ m : Nat, num = m := ⟨num.toNat, by omega⟩
      have hkm : k + m ≤ n := by omega
      have e1 : (ways nw p due).take k ++ (ways nw p due).drop (k + m) = ways nw (p.take k ++ p.drop (k + m)) (due.take k ++ due.drop (k + m)) := by
        rw [ways_append (by simp; omega), ways_take, ways_drop]
      refine play_drop w0 w h k m Aa na ca 0 (n - m) (ways nw (p.take k ++ p.drop (k + m)) (due.take k ++ due.drop (k + m))) (n - m) (p.take k ++ p.drop (k + m)) (due.take k ++ due.drop (k + m)) ?_ ?_ rfl rfl (by omega) (fun d hdm => hd d (mem_cut hdm))
      · intro ps hB
        refine (rdrop_any ps dl A n c (ways nw p due) hB.rd hB.wl hn k m hkm).mono ?_
        rintro e w' ⟨A2, c2, rfl, ho, hb⟩
        rw [e1] at ho
        exact ⟨A2, c2, rfl, hB.row hb ho (by rw [← e1, List.length_append, List.length_take, List.length_drop, hwl]; omega) (by omega), fun r h hr => h.row hr ho, hb⟩
      · intro w1 hL hw
        refine (drop_ok w1 hL hw hn k m hkm).mono ?_
        rintro e w' ⟨P2, D2, rfl, H, hk, aP, aD⟩
        exact ⟨P2, D2, rfl, H, hk.mono fun _ _ e => .inl e, aP, aD⟩
  by_cases k4 : kind = 4
  · subst k4
    by_cases hr : at_ < 0 ∨ (n : Int) ≤ at_
    · refine play_flip w0 w h at_ num Aa na ca 1 n (ways nw p due) n p due ?_ ?_ rfl rfl hn hd
      · intro ps hB
        refine (rflip_range ps dl A n c at_ num hr).mono ?_
        rintro e w' ⟨rfl, hb⟩
        exact ⟨A, c, rfl, hB.grow hb, fun r h _ => h, hb⟩
      · intro w1 hL hw
        refine (flip_range w1 hL at_ num hr).mono ?_
        rintro e w' ⟨rfl, rfl⟩
        exact ⟨P, D, rfl, hL, Kept.refl _ _, Anew.refl _ _, Anew.refl _ _⟩
    · obtain ⟨k, rfl⟩ : ∃ k : Nat, at_ = k := ⟨at_.toNat, by omega⟩
      have hk : k < n := by omega
      obtain ⟨m, hm⟩ := u8_byte num
      by_cases hm0 : m = 0
      · subst hm0
        refine play_flip w0 w h k num Aa na ca 2 n (ways nw p due) n p due ?_ ?_ rfl rfl hn hd
        · intro ps hB
          refine (rflip_form ps dl A n c k hk num (by simpa using hm)).mono ?_
          rintro e w' ⟨rfl, hb⟩
          exact ⟨A, c, rfl, hB.grow hb, fun r h _ => h, hb⟩
        · intro w1 hL hw
          refine (flip_form w1 hL k hk num (by simpa using hm)).mono ?_
          rintro e w' ⟨rfl, rfl⟩
          exact ⟨P, D, rfl, hL, Kept.refl _ _, Anew.refl _ _, Anew.refl _ _⟩
      · have hb : p[k]? = some (p[k]'(by omega)) := List.getElem?_eq_getElem _
        have hdk : due[k]? = some (due[k]'(by omega)) := List.getElem?_eq_getElem _
        obtain ⟨x, hx⟩ : ∃ x, x = p[k]'(by omega) := ⟨_, rfl⟩
        obtain ⟨y, hy⟩ : ∃ y, y = due[k]'(by omega) := ⟨_, rfl⟩
        rw [← hx] at hb
        rw [← hy] at hdk
        have e1 : (ways nw p due).set k (x ^^^ m, max 0 (y - nw)) = ways nw (p.set k (x ^^^ m)) due := (ways_set hdk).symm
        refine play_flip w0 w h k num Aa na ca 0 n (ways nw (p.set k (x ^^^ m)) due) n (p.set k (x ^^^ m)) due ?_ ?_ rfl rfl hn hd
        · intro ps hB
          refine (rflip_any ps dl A n c (ways nw p due) hB.rd hB.wl hn k hk num m hm hm0 _ (ways_get hb hdk)).mono ?_
          rintro e w' ⟨A2, c2, rfl, ho, hbb⟩
          rw [e1] at ho
          exact ⟨A2, c2, rfl, hB.row hbb ho (by rw [← e1, List.length_set, hwl]; exact hpl) (by omega), fun r h hr => h.row hr ho, hbb⟩
        · intro w1 hL hw
          refine (flip_ok w1 hL k hk num m x hm hm0 hb).mono ?_
          rintro e w' ⟨rfl, H, hkk⟩
          exact ⟨P, D, rfl, H, hkk, Anew.refl _ _, Anew.refl _ _⟩
  by_cases k5 : kind = 5
  · subst k5
    obtain ⟨b, hb⟩ := u8_byte num
    by_cases hr : at_ < 0 ∨ (n : Int) < at_
    · refine play_insert w0 w h at_ num Aa na ca 1 n (ways nw p due) n p due b hb ?_ ?_ rfl rfl hn hd
      · intro ps hB
        refine (rinsert_range ps dl A n c at_ b hr).mono ?_
        rintro e w' ⟨rfl, hb⟩
        exact ⟨A, c, rfl, hB.grow hb, fun r h _ => h, hb⟩
      · intro w1 hL hw
        refine (insert_range w1 hL at_ b hr).mono ?_
        rintro e w' ⟨rfl, rfl⟩
        exact ⟨P, D, rfl, hL, Kept.refl _ _, Anew.refl _ _, Anew.refl _ _⟩
    · obtain ⟨k, rfl⟩ : ∃ k : Nat, at_ = k := ⟨at_.toNat, by omega⟩
      have hk : k ≤ n := by omega
      by_cases hfull : n = 65536
      · subst hfull
        refine play_insert w0 w h k num Aa na ca 6 65536 (ways nw p due) 65536 p due b hb ?_ ?_ rfl rfl hn hd
        · intro ps hB
          refine (rinsert_full ps dl A c k b hk).mono ?_
          rintro e w' ⟨rfl, hb⟩
          exact ⟨A, c, rfl, hB.grow hb, fun r h _ => h, hb⟩
        · intro w1 hL hw
          refine (insert_full w1 hL k b hk).mono ?_
          rintro e w' ⟨rfl, rfl⟩
          exact ⟨P, D, rfl, hL, Kept.refl _ _, Anew.refl _ _, Anew.refl _ _⟩
      · have hnl : n < 65536 := by omega
        obtain ⟨x, hx0, hx1⟩ : ∃ x : Int, (n = 0 → x = nw + dl) ∧ (0 < n → due[min k (n - 1)]? = some x) := by
          rcases Nat.eq_zero_or_pos n with h0 | h0
          · exact ⟨nw + dl, fun _ => rfl, fun h => by omega⟩
          · exact ⟨due[min k (n - 1)]'(by omega), fun h => by omega, fun _ => List.getElem?_eq_getElem _⟩
        have hxle : x ≤ nw + 64 := by
          rcases Nat.eq_zero_or_pos n with h0 | h0
          · have := hx0 h0; omega
          · exact hd x (List.mem_of_getElem? (hx1 h0))
        have e1 : (ways nw p due).take k ++ (b, max 0 (x - nw)) :: (ways nw p due).drop k = ways nw (p.take k ++ b :: p.drop k) (due.take k ++ x :: due.drop k) := by
          rw [ways_append (by simp; omega), ways_take]
          congr 1
          simp [ways, List.drop_zipWith]
        refine play_insert w0 w h k num Aa na ca 0 (n + 1) (ways nw (p.take k ++ b :: p.drop k) (due.take k ++ x :: due.drop k)) (n + 1) (p.take k ++ b :: p.drop k) (due.take k ++ x :: due.drop k) b hb ?_ ?_ rfl rfl (by omega) ?_
        · intro ps hB
          refine (rinsert_any ps dl A n c (ways nw p due) hB.rd hB.wl hnl k hk b (max 0 (x - nw)) ?_ ?_).mono ?_
          · intro h0
            have := hx0 h0
            omega
          · intro z h0 hz
            have hpj : p[min k (n - 1)]? = some (p[min k (n - 1)]'(by omega)) := List.getElem?_eq_getElem _
            rw [ways_get hpj (hx1 h0)] at hz
            injection hz with hz
            subst hz
            rfl
          rintro e w' ⟨A2, c2, rfl, ho, hbb⟩
          rw [e1] at ho
          exact ⟨A2, c2, rfl, hB.row hbb ho (by rw [← e1]; simp [hwl]; omega) (by omega), fun r h hr => h.row hr ho, hbb⟩
        · intro w1 hL hw
          refine (insert_ok w1 hL hw hnl h0 (by omega) hd0 hd1 k hk b x hx0 hx1).mono ?_
          rintro e w' ⟨P2, D2, rfl, H, hkk, aP, aD⟩
          exact ⟨P2, D2, rfl, H, hkk.mono fun _ _ e => .inl e, aP, aD⟩
        · intro d hdm
          rcases List.mem_append.1 hdm with hdm | hdm
          · exact hd d (List.mem_of_mem_take hdm)
          · rcases List.mem_cons.1 hdm with rfl | hdm
            · exact hxle
            · exact hd d (List.mem_of_mem_drop hdm)
  exact play_none w0 w h hn hd kind at_ num Aa na ca (by omega)
end
end Go.Proofs.Ytgiboekjjnmnnaa
