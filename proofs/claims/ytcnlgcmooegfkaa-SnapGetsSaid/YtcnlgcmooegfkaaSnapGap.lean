/-
  HOW MANY COUNTERS STAND BEHIND GAPS: the walk over a map of rows.
-/
import Derived.Test.YtcnlgcmooegfkaaSnapMap
import Derived.Test.YtcnlgcmooegfkaaSnapMem
namespace Go.Proofs.Ytcnlgcmooegfkaa
open Go.RowKit Mg Sn

theorem sumS_le : ∀ (n : Nat) (l : List Nat) (p : Nat → Bool), sumS n l p ≤ l.sum
  | _, [], _ => Nat.le_refl _
  | n, x :: r, p => by
    have := sumS_le (n + 1) r p; simp only [sumS, List.sum_cons]
    split <;> omega
def leftM (es : Array MapEntry) (r : Nat) (w : World) : Nat := match w.heap[r]? with
  | some (.mapIter _ _ seen _) => (leftOf es seen).size
  | _ => 0
set_option maxRecDepth 100000 in
set_option maxHeartbeats 1000000 in
theorem gaps_any (g : Int) (m s : Nat) (kv : List (Value × Value)) (ns : List Nat) (w : World) (hS : w.heap[s]? = some (.cells #[.int .i64 g, .map (some m)] 130 (0, 0))) (hM : MapAt w m kv) (hl : ns.length = kv.length)
    (hr : ∀ (j : Nat) (x : Value × Value) (n : Nat), kv[j]? = some x → ns[j]? = some n → ∃ r A c, x.2 = .pointer (some ⟨r, 0, none⟩) ∧ r < w.heap.size ∧ w.cell? ⟨r, 1, none⟩ = some (.slice A n c)) (hb : ns.sum ≤ 1000000000000) :
    Calls Try.prog 70 #[.pointer (some ⟨s, 0, none⟩)] w fun e w' => e = .returned (.int .i64 ns.sum) ∧ Below w.heap.size w w' := by
  have c1 : w.cell? ⟨s, 1, none⟩ = some (.map (some m)) := by rw [cell_of_cells hS]; rfl
  have bs := (Array.getElem?_eq_some_iff.1 hS).1; have hrg : ∀ ty : TypeId, (Instr.range 128 (.map (some m))).run Try.prog w = .ok (.pointer (some ⟨w.heap.size, 0, none⟩)) (w.alloc (.mapIter (some m) kv.length #[] kv.length)) := by
    intro ty; unfold MapAt at hM; simp [Instr.range, run_underlying Try.underlying128, getObj, newObj, Sem.run, Sem.run_bind, hM]
  have hrg := hrg 0; have HM := Lib.hid hM; have HR := Lib.hid hr; have HL := Lib.hid hl; have HS := Lib.hid hS; clear hM hr hl hS
  go_enter Try.func70, Try.ntmps70
  go_wp2_with fail
  clear hrg; have hold : ∀ x ∈ (ents 0 kv).toArray.toList, x.born < kv.length := by
    intro x hx; obtain ⟨i, y, h1, rfl⟩ := ents_get 0 kv x hx; have := (List.getElem?_eq_some_iff.1 h1).1
    simpa using this
  have hnd : ((ents 0 kv).toArray.toList.map (·.born)).Nodup := by
    rw [show (ents 0 kv).toArray.toList = ents 0 kv from rfl, ents_born]; exact List.nodup_range'
  have HOLD := Lib.hid hold; have HND := Lib.hid hnd; clear hold hnd
  go_loopw [3] (fun v wr => ∃ (seen : Array Nat) (c0 z : Nat), v = .int .i64 z ∧ Hid (z = sumS 0 ns (fun j => seen.contains j)) ∧ z ≤ 1000000000000 ∧ Hid (wr.heap[w.heap.size]? = some (.mapIter (some m) kv.length seen c0) ∧ kv.length ≤ c0 ∧ Below w.heap.size w wr)) (fun _ wr => leftM (ents 0 kv).toArray w.heap.size wr)
  case atStart => exact ⟨#[], kv.length, 0, rfl, (sumS_none 0 ns _ (fun j => by simp)).symm, by omega, heap_alloc_new w _, Nat.le_refl _, (Below.refl _ _).alloc (Nat.le_refl _) _⟩
  case round =>
    obtain ⟨seen, c0, z, rfl, hz, hzb, hit, hc0, hbw⟩ := hrel; have hMw : MapAt wr m kv := HM.out.keep (hbw.block m HM.out.lt)
    rcases run_next_at (P := Try.prog) wr 0 w.heap.size m kv.length c0 seen (ents 0 kv).toArray kv.length hit hMw HOLD.out hc0 with ⟨h0, hrun⟩ | ⟨e, he, w1, hw1, hrun⟩
    · have hall := all_seen _ _ h0; have hz2 : z = ns.sum := by
        rw [hz]; refine sumS_all 0 ns _ fun j _ hj => ?_
        have hjl : j < kv.length := by have := HL.out; omega
        have := hall _ (ents_mem 0 kv j kv[j] (List.getElem?_eq_getElem hjl))
        simpa using this
      have HZ := Lib.hid hz2; have HB := Lib.hid hbw; clear hz hz2 hall h0 hMw hit hbw hc0
      go_wp2_with fail
      go_ret
      exact ⟨ret_int (by rw [HZ.out]), HB.out⟩
    · obtain ⟨he1, he2⟩ := mem_left he; obtain ⟨i, x, hx, rfl⟩ := ents_get 0 kv e he1; have hi := (List.getElem?_eq_some_iff.1 hx).1; have hin : i < ns.length := by have := HL.out; omega
      obtain ⟨r, A, c, hv, hrl, hcell⟩ := HR.out i x ns[i] hx (List.getElem?_eq_getElem hin); have hsum := sumS_add 0 ns (fun j => seen.contains j) (fun j => (seen.push (0 + i)).contains j) i ns[i] (List.getElem?_eq_getElem hin) (by simpa using he2) (by simp) (fun j hj => by simp; omega); have hle : sumS 0 ns (fun j => (seen.push (0 + i)).contains j) ≤ ns.sum := sumS_le _ _ _; have hlt := left_shrinks _ _ _ he; obtain ⟨W1, hW1⟩ : ∃ W1, W1 = ChangeMaps.setBlock w1 w.heap.size (.mapIter (some m) kv.length (seen.push (0 + i)) kv.length) := ⟨_, rfl⟩; rw [← hW1] at hrun; have hwz : w.heap.size < wr.heap.size := (Array.getElem?_eq_some_iff.1 hit).1; have hw1h : w1.heap = wr.heap := by rcases hw1 with rfl | rfl <;> rfl
      have hb1 : Below w.heap.size w W1 := by
        have hb2 : Below w.heap.size w w1 := by
          rcases hw1 with rfl | rfl
          · exact hbw
          · exact hbw.drew
        refine ⟨by rw [hW1]; exact hb2.os, by rw [hW1]; exact hb2.tape, by rw [hW1]; exact hb2.output, by rw [hW1]; simpa [ChangeMaps.setBlock] using hb2.size, fun k hk => ?_⟩; rw [hW1]
        show (w1.heap.setIfInBounds _ _)[k]? = _
        rw [Array.getElem?_setIfInBounds_ne (by omega)]; exact hb2.block k hk
      have hbk : ∀ k, k < w.heap.size → W1.heap[k]? = w.heap[k]? := fun k hk => hb1.block k hk
      have hit1 : W1.heap[w.heap.size]? = some (.mapIter (some m) kv.length (seen.push (0 + i)) kv.length) := by
        rw [hW1]
        show (w1.heap.setIfInBounds _ _)[_]? = _
        rw [hw1h, Array.getElem?_setIfInBounds_self_of_lt hwz]
      have hent := run_entry_at (P := Try.prog) W1 w.heap.size m kv.length seen (ents 0 kv).toArray kv.length ⟨x.1, x.2, 0 + i⟩ hit1 (HM.out.keep (hbk m HM.out.lt)) he1 HND.out; have k1 := (cell_block (hbk r hrl) 1).trans hcell; rw [hv] at hrun hent; have hm0 : leftM (ents 0 kv).toArray w.heap.size wr = (leftOf (ents 0 kv).toArray seen).size := by simp only [leftM, hit]
      have hm1 : leftM (ents 0 kv).toArray w.heap.size W1 = (leftOf (ents 0 kv).toArray (seen.push (0 + i))).size := by simp only [leftM, hit1]
      have H1 := Lib.hid hm0; have H2 := Lib.hid hm1; have HLT := Lib.hid hlt; have HZ : Hid (z + ns[i] = sumS 0 ns (fun j => (seen.push (0 + i)).contains j)) := by show _ = _; rw [hsum, hz]
      have hzn : z + ns[i] ≤ 1000000000000 := by rw [HZ.out]; omega
      have HB1 := Lib.hid hb1; have HIT := Lib.hid hit1; obtain ⟨nn, hnn⟩ : ∃ nn, nn = ns[i] := ⟨_, rfl⟩; rw [← hnn] at k1 HZ hzn; clear hnn hsum hz hm0 hm1 hlt hb1 hit1 hW1 hw1h hw1 hbw hit hMw hc0 hbk hcell hv he he1 he2 hx hle
      go_wp2_with fail
      go_roundw
      case rel => exact ⟨_, kv.length, z + nn, by go_num, HZ.out, hzn, HIT.out, Nat.le_refl _, HB1.out⟩
      case measure => rw [H1.out, H2.out]; exact HLT.out
end Go.Proofs.Ytcnlgcmooegfkaa
