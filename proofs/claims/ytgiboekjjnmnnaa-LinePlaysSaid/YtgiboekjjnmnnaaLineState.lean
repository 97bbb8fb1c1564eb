/-
  THE STATE OF LineWhole's LOOP: a line, and three own rows apart from it and from one another.
-/
import Derived.Test.YtgiboekjjnmnnaaLineLaws
import Derived.Test.YtgiboekjjnmnnaaLineMath
namespace Go.Proofs.Ytgiboekjjnmnnaa
open Go.RowKit

/-- no common block -/
def Disj (a b : Value) : Prop := ∀ k, a.ownBlock = some k → b.ownBlock ≠ some k
theorem Disj.symm {a b : Value} (h : Disj a b) : Disj b a := fun k e e' => h k e' e
theorem Disj.left {w : World} {a b a' : Value} (h : Disj a b) (ha : Anew w a a') (hb : ∀ k, b.ownBlock = some k → k < w.heap.size) : Disj a' b := by
  intro k e e'
  rcases ha k e with h1 | h1
  · exact h k h1 e'
  · have := hb k e'
    omega
theorem row_type {w : World} {B : Nat} {e : TypeId} {size : Nat} {v : Value} {n : Nat} {xs : List Value} (h : w.ownsRow B e size v n xs) : ∀ k, v.ownBlock = some k → ∃ cur, w.heap[k]? = some (.cells cur e (0, 0)) := by
  intro k hk
  rcases h.2 with ⟨rfl, _⟩ | ⟨g, cap, cur, rfl, hb, hg, _⟩
  · simp [Value.ownBlock] at hk
  · simp [Value.ownBlock] at hk
    subst hk
    exact ⟨_, hg⟩
theorem type_ne {w : World} {k k' : Nat} {c c' : Array Value} {e e' : TypeId} (h : w.heap[k]? = some (.cells c e (0, 0))) (h' : w.heap[k']? = some (.cells c' e' (0, 0))) (he : e ≠ e') : k ≠ k' := by
  rintro rfl
  rw [h] at h'
  injection h' with h'
  injection h' with _ h'
  exact he h'

structure Whole (w0 w : World) (g : Nat) (dl nw : Int) (np : Nat) (P D U V E : Value) (p : List UInt8) (due : List Int) (nu : Nat) (inn : List UInt8) (nv : Nat) (out : List UInt8) (ne : Nat) (en : List Int) : Prop where
  ln : Ln w w0.heap.size g dl nw np np P D p due
  hU : w.ownsRow w0.heap.size 5 1 U nu (bs inn)
  hV : w.ownsRow w0.heap.size 5 1 V nv (bs out)
  hE : w.ownsRow w0.heap.size 3 1 E ne (is en)
  uv : Disj U V
  up : Disj U P
  vp : Disj V P
  ed : Disj E D
  bel : Below w0.heap.size w0 w

section
variable {w0 w w' : World} {g : Nat} {dl nw : Int} {np : Nat} {P D U V E : Value} {p : List UInt8} {due : List Int} {nu : Nat} {inn : List UInt8} {nv : Nat} {out : List UInt8} {ne : Nat} {en : List Int}

theorem Whole.grow (h : Whole w0 w g dl nw np P D U V E p due nu inn nv out ne en) (hb : Below w.heap.size w w') : Whole w0 w' g dl nw np P D U V E p due nu inn nv out ne en :=
  ⟨h.ln.below hb, own_below h.hU hb, own_below h.hV hb, own_below h.hE hb, h.uv, h.up, h.vp, h.ed, h.bel.trans (hb.mono h.bel.size)⟩

theorem Whole.line (h : Whole w0 w g dl nw np P D U V E p due nu inn nv out ne en) (hk : Kept (LnS g P D) w w') {nw' : Int} {np' : Nat} {P' D' : Value} {p' : List UInt8} {due' : List Int} (H : Ln w' w0.heap.size g dl nw' np' np' P' D' p' due') (aP : Anew w P P') (aD : Anew w D D') :
    Whole w0 w' g dl nw' np' P' D' U V E p' due' nu inn nv out ne en := by
  have hg := h.ln.obj
  refine ⟨H, row_keep h.hU fun k e => hk.block k (h.hU.lt k e).2 ?_, row_keep h.hV fun k e => hk.block k (h.hV.lt k e).2 ?_, row_keep h.hE fun k e => hk.block k (h.hE.lt k e).2 ?_, h.uv,
    (h.up.symm.left aP fun k e => (h.hU.lt k e).2).symm, (h.vp.symm.left aP fun k e => (h.hV.lt k e).2).symm, (h.ed.symm.left aD fun k e => (h.hE.lt k e).2).symm, h.bel.trans (h.ln.under hk h.bel.size)⟩
  · obtain ⟨c, hc⟩ := row_type h.hU k e
    rintro (e' | e' | e')
    · exact type_ne hc hg (by decide) e'
    · exact h.up k e e'
    · obtain ⟨c', hc'⟩ := h.ln.hd.type k e'
      exact type_ne hc hc' (by decide) rfl
  · obtain ⟨c, hc⟩ := row_type h.hV k e
    rintro (e' | e' | e')
    · exact type_ne hc hg (by decide) e'
    · exact h.vp k e e'
    · obtain ⟨c', hc'⟩ := h.ln.hd.type k e'
      exact type_ne hc hc' (by decide) rfl
  · obtain ⟨c, hc⟩ := row_type h.hE k e
    rintro (e' | e' | e')
    · exact type_ne hc hg (by decide) e'
    · obtain ⟨c', hc'⟩ := h.ln.hp.type k e'
      exact type_ne hc hc' (by decide) rfl
    · exact h.ed k e e'

theorem Whole.appU (h : Whole w0 w g dl nw np P D U V E p due nu inn nv out ne en) (hg : w.grownBy w' U.ownBlock) {U' : Value} {nu' : Nat} {inn' : List UInt8} (H : w'.ownsRow w0.heap.size 5 1 U' nu' (bs inn')) (a : Anew w U U') :
    Whole w0 w' g dl nw np P D U' V E p due nu' inn' nv out ne en := by
  refine ⟨h.ln.keep fun k hk hs => hg.block k hk fun e => ?_, H, h.hV.kept hg ?_, h.hE.kept hg ?_, h.uv.left a fun k e => (h.hV.lt k e).2, h.up.left a fun k e => (h.ln.hp.lt k e).2, h.vp, h.ed, below_app' h.bel h.hU hg (Nat.le_refl _) h.bel.size⟩
  · obtain ⟨c, hc⟩ := row_type h.hU k e.symm
    rcases hs with rfl | e' | e'
    · exact type_ne hc h.ln.obj (by decide) rfl
    · exact h.up k e.symm e'
    · obtain ⟨c', hc'⟩ := h.ln.hd.type k e'
      exact type_ne hc hc' (by decide) rfl
  · rcases hb : V.ownBlock with _ | k
    · exact .inl rfl
    · exact .inr fun e => h.uv k e.symm hb
  · rcases hb : E.ownBlock with _ | k
    · exact .inl rfl
    · refine .inr fun e => ?_
      obtain ⟨c, hc⟩ := row_type h.hE k hb
      obtain ⟨c', hc'⟩ := row_type h.hU k e.symm
      exact type_ne hc hc' (by decide) rfl

theorem Whole.appV (h : Whole w0 w g dl nw np P D U V E p due nu inn nv out ne en) (hg : w.grownBy w' V.ownBlock) {V' : Value} {nv' : Nat} {out' : List UInt8} (H : w'.ownsRow w0.heap.size 5 1 V' nv' (bs out')) (a : Anew w V V') :
    Whole w0 w' g dl nw np P D U V' E p due nu inn nv' out' ne en := by
  refine ⟨h.ln.keep fun k hk hs => hg.block k hk fun e => ?_, h.hU.kept hg ?_, H, h.hE.kept hg ?_, (h.uv.symm.left a fun k e => (h.hU.lt k e).2).symm, h.up, h.vp.left a fun k e => (h.ln.hp.lt k e).2, h.ed, below_app' h.bel h.hV hg (Nat.le_refl _) h.bel.size⟩
  · obtain ⟨c, hc⟩ := row_type h.hV k e.symm
    rcases hs with rfl | e' | e'
    · exact type_ne hc h.ln.obj (by decide) rfl
    · exact h.vp k e.symm e'
    · obtain ⟨c', hc'⟩ := h.ln.hd.type k e'
      exact type_ne hc hc' (by decide) rfl
  · rcases hb : U.ownBlock with _ | k
    · exact .inl rfl
    · exact .inr fun e => h.uv k hb e.symm
  · rcases hb : E.ownBlock with _ | k
    · exact .inl rfl
    · refine .inr fun e => ?_
      obtain ⟨c, hc⟩ := row_type h.hE k hb
      obtain ⟨c', hc'⟩ := row_type h.hV k e.symm
      exact type_ne hc hc' (by decide) rfl

theorem Whole.appE (h : Whole w0 w g dl nw np P D U V E p due nu inn nv out ne en) (hg : w.grownBy w' E.ownBlock) {E' : Value} {ne' : Nat} {en' : List Int} (H : w'.ownsRow w0.heap.size 3 1 E' ne' (is en')) (a : Anew w E E') :
    Whole w0 w' g dl nw np P D U V E' p due nu inn nv out ne' en' := by
  refine ⟨h.ln.keep fun k hk hs => hg.block k hk fun e => ?_, h.hU.kept hg ?_, h.hV.kept hg ?_, H, h.uv, h.up, h.vp, h.ed.left a fun k e => (h.ln.hd.lt k e).2, below_app' h.bel h.hE hg (Nat.le_refl _) h.bel.size⟩
  · obtain ⟨c, hc⟩ := row_type h.hE k e.symm
    rcases hs with rfl | e' | e'
    · exact type_ne hc h.ln.obj (by decide) rfl
    · obtain ⟨c', hc'⟩ := h.ln.hp.type k e'
      exact type_ne hc hc' (by decide) rfl
    · exact h.ed k e.symm e'
  · rcases hb : U.ownBlock with _ | k
    · exact .inl rfl
    · refine .inr fun e => ?_
      obtain ⟨c, hc⟩ := row_type h.hU k hb
      obtain ⟨c', hc'⟩ := row_type h.hE k e.symm
      exact type_ne hc hc' (by decide) rfl
  · rcases hb : V.ownBlock with _ | k
    · exact .inl rfl
    · refine .inr fun e => ?_
      obtain ⟨c, hc⟩ := row_type h.hV k hb
      obtain ⟨c', hc'⟩ := row_type h.hE k e.symm
      exact type_ne hc hc' (by decide) rfl
end

/-- where an append has gone, as 'wpList_app' says it -/
theorem Anew.of {w : World} {v v' : Value} (h : v'.ownBlock = v.ownBlock ∨ v'.ownBlock = some w.heap.size) : Anew w v v' := by
  intro k e
  rcases h with h | h
  · exact .inl (h ▸ e)
  · rw [h] at e
    injection e with e
    exact .inr (by omega)

set_option maxHeartbeats 1000000 in
theorem put_full (w : World) {B g : Nat} {dl nw : Int} {n : Nat} {P D : Value} {p : List UInt8} {due : List Int} (h : Ln w B g dl nw n n P D p due) {A : Option Addr} {m c : Nat} (hnn : n ≤ 65536) (hn : 65536 < n + m) :
    Calls Try.prog 9 #[.pointer (some ⟨g, 0, none⟩), .slice A m c] w fun e w' => e = .returned (.int .i64 6) ∧ w = w' := by
  have t1 : decide ((65536 : Int) - n < m) = true := by simp; omega
  obtain ⟨AP, cP, rfl, _⟩ := h.hp.form
  have c2 := h.c2
  have glt := h.lt
  clear h
  go_enter Try.func9, Try.ntmps9
  go_wp2
  go_ret
  exact ⟨rfl, rfl⟩
end Go.Proofs.Ytgiboekjjnmnnaa
