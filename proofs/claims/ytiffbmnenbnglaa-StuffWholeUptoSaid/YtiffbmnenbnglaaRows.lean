/-
  No cell of these rows narrows 'for every input' (looked for: loops, veiled, ifaces, maps, wideKeys, modest, calm, conditions, laid).
  DERIVED. THE GIVEN ROWS OF THIS SEAT. 7 by the template 'for every input the law returns true; each argument reads behind the call as it read before'; 0 by the template 'total and deterministic' (their statements: YtiffbmnenbnglaaTotals.lean).
  GIVEN WITH THE SEED: the statements are not yours to turn. If you find one false, say at which input.
  Laid BY PROGRAM, IN A SANDBOX (cutbox-rows.mjs): the forced cells as the released guide's own fill.sh prints them over the translation 4b501c69320d29c4… (all of the seat's roots in one cut). By AI agents, Wed Nov 11 2026. No macro, syntax, notation, axiom, sorry.
-/
import Derived.Test.YtiffbmnenbnglaaChecked
import GoSem.Claim
import GoSem.ClaimJoined
import GoSem.ClaimMapViews
import Derived.JoinedTies
import Derived.KernelRfl
namespace Go.Proofs.Ytiffbmnenbnglaa
/- THE CELL 'sum', in the pinned program and in every row, IS THE sha256 OF THE DUMP (.gsa) THAT YtiffbmnenbnglaaProg.lean LOADS. Nothing in Lean hashes anything: it is a label: what it is worth is what the hold of that sum in a sandbox is worth. -/
noncomputable def Try.pinned : Pinned := { name := "ytiffbmnenbnglaa", sum := "4b501c69320d29c47a0857f26044360f8c6b4462940abdb1492b4f21df8d8ce5", checked := Try.checked }
namespace Rows
def none {H : Type} : Left H := { results := [], args := [] }

/-- 'portagelaw03.StuffUnstuffs': WHATEVER THE INPUT: true; the input reads as it did. -/
def stuffUnstuffsSpec : ChangeSpec := { name := "stuffUnstuffs", fn := fun _ => fun
  | [d] => { results := [.lit (.bool true)], args := [d] }
  | _ => none }
def stuffUnstuffsRow : OpenClaim := { program := "ytiffbmnenbnglaa", sum := "4b501c69320d29c47a0857f26044360f8c6b4462940abdb1492b4f21df8d8ce5", func := "portage/portagelaw03.StuffUnstuffs", spec := "stuffUnstuffs", apart := false }
def StuffUnstuffsSaid : Prop := stuffUnstuffsRow.holds Try.pinned (OpenSpec.ofChange stuffUnstuffsSpec)

/-- ITS FALSE NEIGHBOUR: 'it returns false'. Refute it at one input. -/
def stuffUnstuffsWrong : ChangeSpec := { name := "stuffUnstuffs", fn := fun _ => fun
  | [d] => { results := [.lit (.bool false)], args := [d] }
  | _ => none }
def StuffUnstuffsWrongFalsely : Prop := stuffUnstuffsRow.holds Try.pinned (OpenSpec.ofChange stuffUnstuffsWrong)

/-- 'portagelaw03.StuffBack': WHATEVER THE INPUT: true; the input reads as it did. -/
def stuffBackSpec : ChangeSpec := { name := "stuffBack", fn := fun _ => fun
  | [d1, d2] => { results := [.lit (.bool true)], args := [d1, d2] }
  | _ => none }
def stuffBackRow : OpenClaim := { program := "ytiffbmnenbnglaa", sum := "4b501c69320d29c47a0857f26044360f8c6b4462940abdb1492b4f21df8d8ce5", func := "portage/portagelaw03.StuffBack", spec := "stuffBack", apart := false }
def StuffBackSaid : Prop := stuffBackRow.holds Try.pinned (OpenSpec.ofChange stuffBackSpec)

/-- ITS FALSE NEIGHBOUR: 'it returns false'. Refute it at one input. -/
def stuffBackWrong : ChangeSpec := { name := "stuffBack", fn := fun _ => fun
  | [d1, d2] => { results := [.lit (.bool false)], args := [d1, d2] }
  | _ => none }
def StuffBackWrongFalsely : Prop := stuffBackRow.holds Try.pinned (OpenSpec.ofChange stuffBackWrong)

/-- 'portagelaw03.StuffClean': WHATEVER THE INPUT: true; the input reads as it did. -/
def stuffCleanSpec : ChangeSpec := { name := "stuffClean", fn := fun _ => fun
  | [d] => { results := [.lit (.bool true)], args := [d] }
  | _ => none }
def stuffCleanRow : OpenClaim := { program := "ytiffbmnenbnglaa", sum := "4b501c69320d29c47a0857f26044360f8c6b4462940abdb1492b4f21df8d8ce5", func := "portage/portagelaw03.StuffClean", spec := "stuffClean", apart := false }
def StuffCleanSaid : Prop := stuffCleanRow.holds Try.pinned (OpenSpec.ofChange stuffCleanSpec)

/-- ITS FALSE NEIGHBOUR: 'it returns false'. Refute it at one input. -/
def stuffCleanWrong : ChangeSpec := { name := "stuffClean", fn := fun _ => fun
  | [d] => { results := [.lit (.bool false)], args := [d] }
  | _ => none }
def StuffCleanWrongFalsely : Prop := stuffCleanRow.holds Try.pinned (OpenSpec.ofChange stuffCleanWrong)

/-- 'portagelaw03.StuffStuffs': WHATEVER THE INPUT: true; the input reads as it did. -/
def stuffStuffsSpec : ChangeSpec := { name := "stuffStuffs", fn := fun _ => fun
  | [d] => { results := [.lit (.bool true)], args := [d] }
  | _ => none }
def stuffStuffsRow : OpenClaim := { program := "ytiffbmnenbnglaa", sum := "4b501c69320d29c47a0857f26044360f8c6b4462940abdb1492b4f21df8d8ce5", func := "portage/portagelaw03.StuffStuffs", spec := "stuffStuffs", apart := false }
def StuffStuffsSaid : Prop := stuffStuffsRow.holds Try.pinned (OpenSpec.ofChange stuffStuffsSpec)

/-- ITS FALSE NEIGHBOUR: 'it returns false'. Refute it at one input. -/
def stuffStuffsWrong : ChangeSpec := { name := "stuffStuffs", fn := fun _ => fun
  | [d] => { results := [.lit (.bool false)], args := [d] }
  | _ => none }
def StuffStuffsWrongFalsely : Prop := stuffStuffsRow.holds Try.pinned (OpenSpec.ofChange stuffStuffsWrong)

/-- 'portagelaw03.StuffJoins': WHATEVER THE INPUT: true; the input reads as it did. -/
def stuffJoinsSpec : ChangeSpec := { name := "stuffJoins", fn := fun _ => fun
  | [d1, d2] => { results := [.lit (.bool true)], args := [d1, d2] }
  | _ => none }
def stuffJoinsRow : OpenClaim := { program := "ytiffbmnenbnglaa", sum := "4b501c69320d29c47a0857f26044360f8c6b4462940abdb1492b4f21df8d8ce5", func := "portage/portagelaw03.StuffJoins", spec := "stuffJoins", apart := false }
def StuffJoinsSaid : Prop := stuffJoinsRow.holds Try.pinned (OpenSpec.ofChange stuffJoinsSpec)

/-- ITS FALSE NEIGHBOUR: 'it returns false'. Refute it at one input. -/
def stuffJoinsWrong : ChangeSpec := { name := "stuffJoins", fn := fun _ => fun
  | [d1, d2] => { results := [.lit (.bool false)], args := [d1, d2] }
  | _ => none }
def StuffJoinsWrongFalsely : Prop := stuffJoinsRow.holds Try.pinned (OpenSpec.ofChange stuffJoinsWrong)

/-- 'portagelaw03.StuffParts': WHATEVER THE INPUT: true; the input reads as it did. -/
def stuffPartsSpec : ChangeSpec := { name := "stuffParts", fn := fun _ => fun
  | [d1, d2] => { results := [.lit (.bool true)], args := [d1, d2] }
  | _ => none }
def stuffPartsRow : OpenClaim := { program := "ytiffbmnenbnglaa", sum := "4b501c69320d29c47a0857f26044360f8c6b4462940abdb1492b4f21df8d8ce5", func := "portage/portagelaw03.StuffParts", spec := "stuffParts", inPlace := ["internal/bytealg.IndexByte", "internal/bytealg.Index"], unfollowed := true, recurses := true, named := ["internal/bytealg.MaxLen"], apart := false }
def StuffPartsSaid : Prop := stuffPartsRow.holds Try.pinned (OpenSpec.ofChange stuffPartsSpec)

/-- ITS FALSE NEIGHBOUR: 'it returns false'. Refute it at one input. -/
def stuffPartsWrong : ChangeSpec := { name := "stuffParts", fn := fun _ => fun
  | [d1, d2] => { results := [.lit (.bool false)], args := [d1, d2] }
  | _ => none }
def StuffPartsWrongFalsely : Prop := stuffPartsRow.holds Try.pinned (OpenSpec.ofChange stuffPartsWrong)

/-- 'portagelaw03.StuffWhole': WHATEVER THE INPUT: true; the input reads as it did. -/
def stuffWholeSpec : ChangeSpec := { name := "stuffWhole", fn := fun _ => fun
  | [d1, d2] => { results := [.lit (.bool true)], args := [d1, d2] }
  | _ => none }
def stuffWholeRow : OpenClaim := { program := "ytiffbmnenbnglaa", sum := "4b501c69320d29c47a0857f26044360f8c6b4462940abdb1492b4f21df8d8ce5", func := "portage/portagelaw03.StuffWhole", spec := "stuffWhole", inPlace := ["internal/bytealg.IndexByte", "internal/bytealg.Index"], unfollowed := true, recurses := true, named := ["internal/bytealg.MaxLen"], apart := false }
def StuffWholeSaid : Prop := stuffWholeRow.holds Try.pinned (OpenSpec.ofChange stuffWholeSpec)

/-- ITS FALSE NEIGHBOUR: 'it returns false'. Refute it at one input. -/
def stuffWholeWrong : ChangeSpec := { name := "stuffWhole", fn := fun _ => fun
  | [d1, d2] => { results := [.lit (.bool false)], args := [d1, d2] }
  | _ => none }
def StuffWholeWrongFalsely : Prop := stuffWholeRow.holds Try.pinned (OpenSpec.ofChange stuffWholeWrong)

/- THE SECOND FORM. 'bulk': how many values and letters a reading holds, each counted each time it is reached (what is shared counts as often as it is met; a slice's spare places count too). A statement '..UptoSaid' is the law's where the arguments, and the package variables that the reading takes, are together of bulk at most 1048576: NARROWER than '..Said'. Prove '..Said' where nothing that the law and all that it calls make is longer than what came in: it says more and counts as full. Else prove '..UptoSaid'. A law counts once. -/
mutual
def uptoBulk {H : Type} : DataW H → Nat
  | .lit (.string bytes) => bytes.length + 1
  | .lit _ => 1
  | .nil => 1
  | .ptr d => uptoBulk d + 1
  | .slice elems spare => uptoBulkAll elems + uptoBulkAll spare + 1
  | .agg parts => uptoBulkAll parts + 1
  | .iface _ d => uptoBulk d + 1
  | .map entries => uptoBulkEntries entries + 1
  | .held _ => 1
def uptoBulkAll {H : Type} : List (DataW H) → Nat
  | [] => 0
  | d :: r => uptoBulk d + uptoBulkAll r
def uptoBulkEntries {H : Type} : List (Lit × DataW H) → Nat
  | [] => 0
  | x :: r => uptoBulkEntry x + uptoBulkEntries r
def uptoBulkEntry {H : Type} : Lit × DataW H → Nat
  | (.string bytes, d) => bytes.length + uptoBulk d + 1
  | (_, d) => uptoBulk d + 1
 end
def uptoSmall : (H : Type) → List (DataW H) → Bool := fun _ ds => decide (uptoBulkAll ds ≤ 1048576)
def OpenSpec.upto (s : _root_.Go.ChangeSpec) : _root_.Go.OpenSpec := { _root_.Go.OpenSpec.ofChange s with cond := some uptoSmall }

/-- 'portagelaw03.StuffUnstuffs', WHERE WHAT IT READS IS OF BULK AT MOST 1048576: true; the input reads as it did. -/
def stuffUnstuffsUptoRow : OpenClaim := { program := "ytiffbmnenbnglaa", sum := "4b501c69320d29c47a0857f26044360f8c6b4462940abdb1492b4f21df8d8ce5", func := "portage/portagelaw03.StuffUnstuffs", spec := "stuffUnstuffs", apart := false, narrowed := true }
def StuffUnstuffsUptoSaid : Prop := stuffUnstuffsUptoRow.holds Try.pinned (OpenSpec.upto stuffUnstuffsSpec)

/-- 'portagelaw03.StuffBack', WHERE WHAT IT READS IS OF BULK AT MOST 1048576: true; the input reads as it did. -/
def stuffBackUptoRow : OpenClaim := { program := "ytiffbmnenbnglaa", sum := "4b501c69320d29c47a0857f26044360f8c6b4462940abdb1492b4f21df8d8ce5", func := "portage/portagelaw03.StuffBack", spec := "stuffBack", apart := false, narrowed := true }
def StuffBackUptoSaid : Prop := stuffBackUptoRow.holds Try.pinned (OpenSpec.upto stuffBackSpec)

/-- 'portagelaw03.StuffClean', WHERE WHAT IT READS IS OF BULK AT MOST 1048576: true; the input reads as it did. -/
def stuffCleanUptoRow : OpenClaim := { program := "ytiffbmnenbnglaa", sum := "4b501c69320d29c47a0857f26044360f8c6b4462940abdb1492b4f21df8d8ce5", func := "portage/portagelaw03.StuffClean", spec := "stuffClean", apart := false, narrowed := true }
def StuffCleanUptoSaid : Prop := stuffCleanUptoRow.holds Try.pinned (OpenSpec.upto stuffCleanSpec)

/-- 'portagelaw03.StuffStuffs', WHERE WHAT IT READS IS OF BULK AT MOST 1048576: true; the input reads as it did. -/
def stuffStuffsUptoRow : OpenClaim := { program := "ytiffbmnenbnglaa", sum := "4b501c69320d29c47a0857f26044360f8c6b4462940abdb1492b4f21df8d8ce5", func := "portage/portagelaw03.StuffStuffs", spec := "stuffStuffs", apart := false, narrowed := true }
def StuffStuffsUptoSaid : Prop := stuffStuffsUptoRow.holds Try.pinned (OpenSpec.upto stuffStuffsSpec)

/-- 'portagelaw03.StuffJoins', WHERE WHAT IT READS IS OF BULK AT MOST 1048576: true; the input reads as it did. -/
def stuffJoinsUptoRow : OpenClaim := { program := "ytiffbmnenbnglaa", sum := "4b501c69320d29c47a0857f26044360f8c6b4462940abdb1492b4f21df8d8ce5", func := "portage/portagelaw03.StuffJoins", spec := "stuffJoins", apart := false, narrowed := true }
def StuffJoinsUptoSaid : Prop := stuffJoinsUptoRow.holds Try.pinned (OpenSpec.upto stuffJoinsSpec)

/-- 'portagelaw03.StuffParts', WHERE WHAT IT READS IS OF BULK AT MOST 1048576: true; the input reads as it did. -/
def stuffPartsUptoRow : OpenClaim := { program := "ytiffbmnenbnglaa", sum := "4b501c69320d29c47a0857f26044360f8c6b4462940abdb1492b4f21df8d8ce5", func := "portage/portagelaw03.StuffParts", spec := "stuffParts", inPlace := ["internal/bytealg.IndexByte", "internal/bytealg.Index"], unfollowed := true, recurses := true, named := ["internal/bytealg.MaxLen"], apart := false, narrowed := true }
def StuffPartsUptoSaid : Prop := stuffPartsUptoRow.holds Try.pinned (OpenSpec.upto stuffPartsSpec)

/-- 'portagelaw03.StuffWhole', WHERE WHAT IT READS IS OF BULK AT MOST 1048576: true; the input reads as it did. -/
def stuffWholeUptoRow : OpenClaim := { program := "ytiffbmnenbnglaa", sum := "4b501c69320d29c47a0857f26044360f8c6b4462940abdb1492b4f21df8d8ce5", func := "portage/portagelaw03.StuffWhole", spec := "stuffWhole", inPlace := ["internal/bytealg.IndexByte", "internal/bytealg.Index"], unfollowed := true, recurses := true, named := ["internal/bytealg.MaxLen"], apart := false, narrowed := true }
def StuffWholeUptoSaid : Prop := stuffWholeUptoRow.holds Try.pinned (OpenSpec.upto stuffWholeSpec)

end Rows
end Go.Proofs.Ytiffbmnenbnglaa
