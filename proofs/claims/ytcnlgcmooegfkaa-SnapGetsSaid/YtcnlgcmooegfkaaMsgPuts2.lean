/-
  MsgPuts.
-/
import Derived.Test.YtcnlgcmooegfkaaMsgPuts
import Derived.Test.YtcnlgcmooegfkaaLit
import Derived.StillTailTactics
import Derived.StillTactics
namespace Go.Proofs.Ytcnlgcmooegfkaa
open Go.RowKit Mg

theorem mb_len (i : Mid) (l : List UInt8) : (mb i l).length ≤ 54 := by
  unfold mb
  split
  · rename_i h
    have := (chk_of_chkM h).2.2; rw [List.length_append, idB_len]; omega
  · simp

end Go.Proofs.Ytcnlgcmooegfkaa
