/-
  No cell of these rows narrows 'for every input' (looked for: loops, veiled, ifaces, maps, wideKeys, modest, calm, conditions, laid).
  DERIVED. THE GIVEN ROWS OF THIS SEAT. 7 by the template 'for every input the law returns true; each argument reads behind the call as it read before'; 0 by the template 'total and deterministic' (their statements: YtpfilomckijmkaaTotals.lean).
  GIVEN WITH THE SEED: the statements are not yours to turn. If you find one false, say at which input.
  Laid BY PROGRAM, IN A SANDBOX (cutbox-rows.mjs): the forced cells as the released guide's own fill.sh prints them over the translation a7902456c3e6634e… (all of the seat's roots in one cut). By AI agents, Wed Nov 11 2026. No macro, syntax, notation, axiom, sorry.
-/
import Derived.Test.YtpfilomckijmkaaChecked
import GoSem.Claim
import GoSem.ClaimJoined
import GoSem.ClaimMapViews
import Derived.JoinedTies
import Derived.KernelRfl
namespace Go.Proofs.Ytpfilomckijmkaa
/- THE CELL 'sum', in the pinned program and in every row, IS THE sha256 OF THE DUMP (.gsa) THAT YtpfilomckijmkaaProg.lean LOADS. Nothing in Lean hashes anything: it is a label: what it is worth is what the hold of that sum in a sandbox is worth. -/
noncomputable def Try.pinned : Pinned := { name := "ytpfilomckijmkaa", sum := "a7902456c3e6634ee73af3433d8dff0b6d029b31a50d5f8febdf90f46f324759", checked := Try.checked }
namespace Rows
def none {H : Type} : Left H := { results := [], args := [] }

/-- 'portagelaw04.HdlcFeeds': WHATEVER THE INPUT: true; the input reads as it did. -/
def hdlcFeedsSpec : ChangeSpec := { name := "hdlcFeeds", fn := fun _ => fun
  | [d] => { results := [.lit (.bool true)], args := [d] }
  | _ => none }
def hdlcFeedsRow : OpenClaim := { program := "ytpfilomckijmkaa", sum := "a7902456c3e6634ee73af3433d8dff0b6d029b31a50d5f8febdf90f46f324759", func := "portage/portagelaw04.HdlcFeeds", spec := "hdlcFeeds", unfollowed := true, recurses := true, apart := false }
def HdlcFeedsSaid : Prop := hdlcFeedsRow.holds Try.pinned (OpenSpec.ofChange hdlcFeedsSpec)

/-- ITS FALSE NEIGHBOUR: 'it returns false'. Refute it at one input. -/
def hdlcFeedsWrong : ChangeSpec := { name := "hdlcFeeds", fn := fun _ => fun
  | [d] => { results := [.lit (.bool false)], args := [d] }
  | _ => none }
def HdlcFeedsWrongFalsely : Prop := hdlcFeedsRow.holds Try.pinned (OpenSpec.ofChange hdlcFeedsWrong)

/-- 'portagelaw04.HdlcParts': WHATEVER THE INPUT: true; the input reads as it did. -/
def hdlcPartsSpec : ChangeSpec := { name := "hdlcParts", fn := fun _ => fun
  | [d1, d2] => { results := [.lit (.bool true)], args := [d1, d2] }
  | _ => none }
def hdlcPartsRow : OpenClaim := { program := "ytpfilomckijmkaa", sum := "a7902456c3e6634ee73af3433d8dff0b6d029b31a50d5f8febdf90f46f324759", func := "portage/portagelaw04.HdlcParts", spec := "hdlcParts", unfollowed := true, recurses := true, apart := false }
def HdlcPartsSaid : Prop := hdlcPartsRow.holds Try.pinned (OpenSpec.ofChange hdlcPartsSpec)

/-- ITS FALSE NEIGHBOUR: 'it returns false'. Refute it at one input. -/
def hdlcPartsWrong : ChangeSpec := { name := "hdlcParts", fn := fun _ => fun
  | [d1, d2] => { results := [.lit (.bool false)], args := [d1, d2] }
  | _ => none }
def HdlcPartsWrongFalsely : Prop := hdlcPartsRow.holds Try.pinned (OpenSpec.ofChange hdlcPartsWrong)

/-- 'portagelaw04.HdlcNil': WHATEVER THE INPUT: true; the input reads as it did. -/
def hdlcNilSpec : ChangeSpec := { name := "hdlcNil", fn := fun _ => fun
  | [d] => { results := [.lit (.bool true)], args := [d] }
  | _ => none }
def hdlcNilRow : OpenClaim := { program := "ytpfilomckijmkaa", sum := "a7902456c3e6634ee73af3433d8dff0b6d029b31a50d5f8febdf90f46f324759", func := "portage/portagelaw04.HdlcNil", spec := "hdlcNil", unfollowed := true, recurses := true, apart := false }
def HdlcNilSaid : Prop := hdlcNilRow.holds Try.pinned (OpenSpec.ofChange hdlcNilSpec)

/-- ITS FALSE NEIGHBOUR: 'it returns false'. Refute it at one input. -/
def hdlcNilWrong : ChangeSpec := { name := "hdlcNil", fn := fun _ => fun
  | [d] => { results := [.lit (.bool false)], args := [d] }
  | _ => none }
def HdlcNilWrongFalsely : Prop := hdlcNilRow.holds Try.pinned (OpenSpec.ofChange hdlcNilWrong)

/-- 'portagelaw04.HdlcEncodes': WHATEVER THE INPUT: true; the input reads as it did. -/
def hdlcEncodesSpec : ChangeSpec := { name := "hdlcEncodes", fn := fun _ => fun
  | [d] => { results := [.lit (.bool true)], args := [d] }
  | _ => none }
def hdlcEncodesRow : OpenClaim := { program := "ytpfilomckijmkaa", sum := "a7902456c3e6634ee73af3433d8dff0b6d029b31a50d5f8febdf90f46f324759", func := "portage/portagelaw04.HdlcEncodes", spec := "hdlcEncodes", unfollowed := true, recurses := true, apart := false }
def HdlcEncodesSaid : Prop := hdlcEncodesRow.holds Try.pinned (OpenSpec.ofChange hdlcEncodesSpec)

/-- ITS FALSE NEIGHBOUR: 'it returns false'. Refute it at one input. -/
def hdlcEncodesWrong : ChangeSpec := { name := "hdlcEncodes", fn := fun _ => fun
  | [d] => { results := [.lit (.bool false)], args := [d] }
  | _ => none }
def HdlcEncodesWrongFalsely : Prop := hdlcEncodesRow.holds Try.pinned (OpenSpec.ofChange hdlcEncodesWrong)

/-- 'portagelaw04.HdlcRows': WHATEVER THE INPUT: true; the input reads as it did. -/
def hdlcRowsSpec : ChangeSpec := { name := "hdlcRows", fn := fun _ => fun
  | [d1, d2] => { results := [.lit (.bool true)], args := [d1, d2] }
  | _ => none }
def hdlcRowsRow : OpenClaim := { program := "ytpfilomckijmkaa", sum := "a7902456c3e6634ee73af3433d8dff0b6d029b31a50d5f8febdf90f46f324759", func := "portage/portagelaw04.HdlcRows", spec := "hdlcRows", unfollowed := true, recurses := true, apart := false }
def HdlcRowsSaid : Prop := hdlcRowsRow.holds Try.pinned (OpenSpec.ofChange hdlcRowsSpec)

/-- ITS FALSE NEIGHBOUR: 'it returns false'. Refute it at one input. -/
def hdlcRowsWrong : ChangeSpec := { name := "hdlcRows", fn := fun _ => fun
  | [d1, d2] => { results := [.lit (.bool false)], args := [d1, d2] }
  | _ => none }
def HdlcRowsWrongFalsely : Prop := hdlcRowsRow.holds Try.pinned (OpenSpec.ofChange hdlcRowsWrong)

/-- 'portagelaw04.HdlcThere': WHATEVER THE INPUT: true; the input reads as it did. -/
def hdlcThereSpec : ChangeSpec := { name := "hdlcThere", fn := fun _ => fun
  | [d] => { results := [.lit (.bool true)], args := [d] }
  | _ => none }
def hdlcThereRow : OpenClaim := { program := "ytpfilomckijmkaa", sum := "a7902456c3e6634ee73af3433d8dff0b6d029b31a50d5f8febdf90f46f324759", func := "portage/portagelaw04.HdlcThere", spec := "hdlcThere", unfollowed := true, recurses := true, apart := false }
def HdlcThereSaid : Prop := hdlcThereRow.holds Try.pinned (OpenSpec.ofChange hdlcThereSpec)

/-- ITS FALSE NEIGHBOUR: 'it returns false'. Refute it at one input. -/
def hdlcThereWrong : ChangeSpec := { name := "hdlcThere", fn := fun _ => fun
  | [d] => { results := [.lit (.bool false)], args := [d] }
  | _ => none }
def HdlcThereWrongFalsely : Prop := hdlcThereRow.holds Try.pinned (OpenSpec.ofChange hdlcThereWrong)

/-- 'portagelaw04.HdlcFinds': WHATEVER THE INPUT: true; the input reads as it did. -/
def hdlcFindsSpec : ChangeSpec := { name := "hdlcFinds", fn := fun _ => fun
  | [d1, d2] => { results := [.lit (.bool true)], args := [d1, d2] }
  | _ => none }
def hdlcFindsRow : OpenClaim := { program := "ytpfilomckijmkaa", sum := "a7902456c3e6634ee73af3433d8dff0b6d029b31a50d5f8febdf90f46f324759", func := "portage/portagelaw04.HdlcFinds", spec := "hdlcFinds", unfollowed := true, recurses := true, apart := false }
def HdlcFindsSaid : Prop := hdlcFindsRow.holds Try.pinned (OpenSpec.ofChange hdlcFindsSpec)

/-- ITS FALSE NEIGHBOUR: 'it returns false'. Refute it at one input. -/
def hdlcFindsWrong : ChangeSpec := { name := "hdlcFinds", fn := fun _ => fun
  | [d1, d2] => { results := [.lit (.bool false)], args := [d1, d2] }
  | _ => none }
def HdlcFindsWrongFalsely : Prop := hdlcFindsRow.holds Try.pinned (OpenSpec.ofChange hdlcFindsWrong)

/- THE SECOND FORM. 'bulk': how many values and letters a reading holds, each counted each time it is reached (what is shared counts as often as it is met; a slice's spare places count too). A statement '..UptoSaid' is the law's where the arguments, and the package variables that the reading takes, are together of bulk at most 1048576: NARROWER than '..Said'. Prove '..Said' where nothing that the law and all that it calls make is longer than what came in: it says more and counts as full. Else prove '..UptoSaid'. A law counts once. -/
mutual
def uptoBulk {H : Type} : DataW H → Nat
  | .lit (.string bytes) => bytes.length + 1
  | .lit _ => 1
  | .nil => 1
  | .ptr d => uptoBulk d + 1
  | .slice elems spare => uptoBulkAll elems + uptoBulkAll spare + 1
  | .agg parts => uptoBulkAll parts + 1
  | .iface _ d => uptoBulk d + 1
  | .map entries => uptoBulkEntries entries + 1
  | .held _ => 1
def uptoBulkAll {H : Type} : List (DataW H) → Nat
  | [] => 0
  | d :: r => uptoBulk d + uptoBulkAll r
def uptoBulkEntries {H : Type} : List (Lit × DataW H) → Nat
  | [] => 0
  | x :: r => uptoBulkEntry x + uptoBulkEntries r
def uptoBulkEntry {H : Type} : Lit × DataW H → Nat
  | (.string bytes, d) => bytes.length + uptoBulk d + 1
  | (_, d) => uptoBulk d + 1
 end
def uptoSmall : (H : Type) → List (DataW H) → Bool := fun _ ds => decide (uptoBulkAll ds ≤ 1048576)
def OpenSpec.upto (s : _root_.Go.ChangeSpec) : _root_.Go.OpenSpec := { _root_.Go.OpenSpec.ofChange s with cond := some uptoSmall }

/-- 'portagelaw04.HdlcFeeds', WHERE WHAT IT READS IS OF BULK AT MOST 1048576: true; the input reads as it did. -/
def hdlcFeedsUptoRow : OpenClaim := { program := "ytpfilomckijmkaa", sum := "a7902456c3e6634ee73af3433d8dff0b6d029b31a50d5f8febdf90f46f324759", func := "portage/portagelaw04.HdlcFeeds", spec := "hdlcFeeds", unfollowed := true, recurses := true, apart := false, narrowed := true }
def HdlcFeedsUptoSaid : Prop := hdlcFeedsUptoRow.holds Try.pinned (OpenSpec.upto hdlcFeedsSpec)

/-- 'portagelaw04.HdlcParts', WHERE WHAT IT READS IS OF BULK AT MOST 1048576: true; the input reads as it did. -/
def hdlcPartsUptoRow : OpenClaim := { program := "ytpfilomckijmkaa", sum := "a7902456c3e6634ee73af3433d8dff0b6d029b31a50d5f8febdf90f46f324759", func := "portage/portagelaw04.HdlcParts", spec := "hdlcParts", unfollowed := true, recurses := true, apart := false, narrowed := true }
def HdlcPartsUptoSaid : Prop := hdlcPartsUptoRow.holds Try.pinned (OpenSpec.upto hdlcPartsSpec)

/-- 'portagelaw04.HdlcNil', WHERE WHAT IT READS IS OF BULK AT MOST 1048576: true; the input reads as it did. -/
def hdlcNilUptoRow : OpenClaim := { program := "ytpfilomckijmkaa", sum := "a7902456c3e6634ee73af3433d8dff0b6d029b31a50d5f8febdf90f46f324759", func := "portage/portagelaw04.HdlcNil", spec := "hdlcNil", unfollowed := true, recurses := true, apart := false, narrowed := true }
def HdlcNilUptoSaid : Prop := hdlcNilUptoRow.holds Try.pinned (OpenSpec.upto hdlcNilSpec)

/-- 'portagelaw04.HdlcEncodes', WHERE WHAT IT READS IS OF BULK AT MOST 1048576: true; the input reads as it did. -/
def hdlcEncodesUptoRow : OpenClaim := { program := "ytpfilomckijmkaa", sum := "a7902456c3e6634ee73af3433d8dff0b6d029b31a50d5f8febdf90f46f324759", func := "portage/portagelaw04.HdlcEncodes", spec := "hdlcEncodes", unfollowed := true, recurses := true, apart := false, narrowed := true }
def HdlcEncodesUptoSaid : Prop := hdlcEncodesUptoRow.holds Try.pinned (OpenSpec.upto hdlcEncodesSpec)

/-- 'portagelaw04.HdlcRows', WHERE WHAT IT READS IS OF BULK AT MOST 1048576: true; the input reads as it did. -/
def hdlcRowsUptoRow : OpenClaim := { program := "ytpfilomckijmkaa", sum := "a7902456c3e6634ee73af3433d8dff0b6d029b31a50d5f8febdf90f46f324759", func := "portage/portagelaw04.HdlcRows", spec := "hdlcRows", unfollowed := true, recurses := true, apart := false, narrowed := true }
def HdlcRowsUptoSaid : Prop := hdlcRowsUptoRow.holds Try.pinned (OpenSpec.upto hdlcRowsSpec)

/-- 'portagelaw04.HdlcThere', WHERE WHAT IT READS IS OF BULK AT MOST 1048576: true; the input reads as it did. -/
def hdlcThereUptoRow : OpenClaim := { program := "ytpfilomckijmkaa", sum := "a7902456c3e6634ee73af3433d8dff0b6d029b31a50d5f8febdf90f46f324759", func := "portage/portagelaw04.HdlcThere", spec := "hdlcThere", unfollowed := true, recurses := true, apart := false, narrowed := true }
def HdlcThereUptoSaid : Prop := hdlcThereUptoRow.holds Try.pinned (OpenSpec.upto hdlcThereSpec)

/-- 'portagelaw04.HdlcFinds', WHERE WHAT IT READS IS OF BULK AT MOST 1048576: true; the input reads as it did. -/
def hdlcFindsUptoRow : OpenClaim := { program := "ytpfilomckijmkaa", sum := "a7902456c3e6634ee73af3433d8dff0b6d029b31a50d5f8febdf90f46f324759", func := "portage/portagelaw04.HdlcFinds", spec := "hdlcFinds", unfollowed := true, recurses := true, apart := false, narrowed := true }
def HdlcFindsUptoSaid : Prop := hdlcFindsUptoRow.holds Try.pinned (OpenSpec.upto hdlcFindsSpec)

end Rows
end Go.Proofs.Ytpfilomckijmkaa
