/-
  No cell of these rows narrows 'for every input' (looked for: loops, veiled, ifaces, maps, wideKeys, modest, calm, conditions, laid).
  DERIVED. THE GIVEN ROWS OF THIS SEAT. 4 by the template 'for every input the law returns true; each argument reads behind the call as it read before'; 0 by the template 'total and deterministic' (their statements: YtbhiijjnobcmoaaTotals.lean).
  GIVEN WITH THE SEED: the statements are not yours to turn. If you find one false, say at which input.
  Laid BY PROGRAM, IN A SANDBOX (cutbox-rows.mjs): the forced cells as the released guide's own fill.sh prints them over the translation d7fdbe0734f8d58f… (all of the seat's roots in one cut). By AI agents, Wed Nov 11 2026. No macro, syntax, notation, axiom, sorry.
-/
import Derived.Test.YtbhiijjnobcmoaaChecked
import GoSem.Claim
import GoSem.ClaimJoined
import GoSem.ClaimMapViews
import Derived.JoinedTies
import Derived.KernelRfl
namespace Go.Proofs.Ytbhiijjnobcmoaa
/- THE CELL 'sum', in the pinned program and in every row, IS THE sha256 OF THE DUMP (.gsa) THAT YtbhiijjnobcmoaaProg.lean LOADS. Nothing in Lean hashes anything: it is a label: what it is worth is what the hold of that sum in a sandbox is worth. -/
noncomputable def Try.pinned : Pinned := { name := "ytbhiijjnobcmoaa", sum := "d7fdbe0734f8d58fb494fc4cdfb72fb14c380b18c17aa1fc3221c42c3b1d7219", checked := Try.checked }
namespace Rows
def none {H : Type} : Left H := { results := [], args := [] }

/-- 'almonrylaw17.CheckLays': WHATEVER THE INPUT: true; the input reads as it did. -/
def checkLaysSpec : ChangeSpec := { name := "checkLays", fn := fun _ => fun
  | [d1, d2, d3] => { results := [.lit (.bool true)], args := [d1, d2, d3] }
  | _ => none }
def checkLaysRow : OpenClaim := { program := "ytbhiijjnobcmoaa", sum := "d7fdbe0734f8d58fb494fc4cdfb72fb14c380b18c17aa1fc3221c42c3b1d7219", func := "almonry/almonrylaw17.CheckLays", spec := "checkLays", inPlace := ["internal/abi.NoEscape", "internal/bytealg.MakeNoZero"], unfollowed := true, recurses := true, apart := false }
def CheckLaysSaid : Prop := checkLaysRow.holds Try.pinned (OpenSpec.ofChange checkLaysSpec)

/-- ITS FALSE NEIGHBOUR: 'it returns false'. Refute it at one input. -/
def checkLaysWrong : ChangeSpec := { name := "checkLays", fn := fun _ => fun
  | [d1, d2, d3] => { results := [.lit (.bool false)], args := [d1, d2, d3] }
  | _ => none }
def CheckLaysWrongFalsely : Prop := checkLaysRow.holds Try.pinned (OpenSpec.ofChange checkLaysWrong)

/-- 'almonrylaw17.CheckBack': WHATEVER THE INPUT: true; the input reads as it did. -/
def checkBackSpec : ChangeSpec := { name := "checkBack", fn := fun _ => fun
  | [d] => { results := [.lit (.bool true)], args := [d] }
  | _ => none }
def checkBackRow : OpenClaim := { program := "ytbhiijjnobcmoaa", sum := "d7fdbe0734f8d58fb494fc4cdfb72fb14c380b18c17aa1fc3221c42c3b1d7219", func := "almonry/almonrylaw17.CheckBack", spec := "checkBack", inPlace := ["internal/abi.NoEscape", "internal/bytealg.MakeNoZero"], unfollowed := true, recurses := true, apart := false }
def CheckBackSaid : Prop := checkBackRow.holds Try.pinned (OpenSpec.ofChange checkBackSpec)

/-- ITS FALSE NEIGHBOUR: 'it returns false'. Refute it at one input. -/
def checkBackWrong : ChangeSpec := { name := "checkBack", fn := fun _ => fun
  | [d] => { results := [.lit (.bool false)], args := [d] }
  | _ => none }
def CheckBackWrongFalsely : Prop := checkBackRow.holds Try.pinned (OpenSpec.ofChange checkBackWrong)

/-- 'almonrylaw17.CheckParts': WHATEVER THE INPUT: true; the input reads as it did. -/
def checkPartsSpec : ChangeSpec := { name := "checkParts", fn := fun _ => fun
  | [d] => { results := [.lit (.bool true)], args := [d] }
  | _ => none }
def checkPartsRow : OpenClaim := { program := "ytbhiijjnobcmoaa", sum := "d7fdbe0734f8d58fb494fc4cdfb72fb14c380b18c17aa1fc3221c42c3b1d7219", func := "almonry/almonrylaw17.CheckParts", spec := "checkParts", inPlace := ["internal/abi.NoEscape", "internal/bytealg.MakeNoZero"], unfollowed := true, recurses := true, apart := false }
def CheckPartsSaid : Prop := checkPartsRow.holds Try.pinned (OpenSpec.ofChange checkPartsSpec)

/-- ITS FALSE NEIGHBOUR: 'it returns false'. Refute it at one input. -/
def checkPartsWrong : ChangeSpec := { name := "checkParts", fn := fun _ => fun
  | [d] => { results := [.lit (.bool false)], args := [d] }
  | _ => none }
def CheckPartsWrongFalsely : Prop := checkPartsRow.holds Try.pinned (OpenSpec.ofChange checkPartsWrong)

/-- 'almonrylaw17.CheckReads': WHATEVER THE INPUT: true; the input reads as it did. -/
def checkReadsSpec : ChangeSpec := { name := "checkReads", fn := fun _ => fun
  | [d1, d2, d3] => { results := [.lit (.bool true)], args := [d1, d2, d3] }
  | _ => none }
def checkReadsRow : OpenClaim := { program := "ytbhiijjnobcmoaa", sum := "d7fdbe0734f8d58fb494fc4cdfb72fb14c380b18c17aa1fc3221c42c3b1d7219", func := "almonry/almonrylaw17.CheckReads", spec := "checkReads", inPlace := ["internal/abi.NoEscape", "internal/bytealg.MakeNoZero"], unfollowed := true, recurses := true, apart := false }
def CheckReadsSaid : Prop := checkReadsRow.holds Try.pinned (OpenSpec.ofChange checkReadsSpec)

/-- ITS FALSE NEIGHBOUR: 'it returns false'. Refute it at one input. -/
def checkReadsWrong : ChangeSpec := { name := "checkReads", fn := fun _ => fun
  | [d1, d2, d3] => { results := [.lit (.bool false)], args := [d1, d2, d3] }
  | _ => none }
def CheckReadsWrongFalsely : Prop := checkReadsRow.holds Try.pinned (OpenSpec.ofChange checkReadsWrong)

/- THE SECOND FORM. 'bulk': how many values and letters a reading holds, each counted each time it is reached (what is shared counts as often as it is met; a slice's spare places count too). A statement '..UptoSaid' is the law's where the arguments, and the package variables that the reading takes, are together of bulk at most 1048576: NARROWER than '..Said'. Prove '..Said' where nothing that the law and all that it calls make is longer than what came in: it says more and counts as full. Else prove '..UptoSaid'. A law counts once. -/
mutual
def uptoBulk {H : Type} : DataW H → Nat
  | .lit (.string bytes) => bytes.length + 1
  | .lit _ => 1
  | .nil => 1
  | .ptr d => uptoBulk d + 1
  | .slice elems spare => uptoBulkAll elems + uptoBulkAll spare + 1
  | .agg parts => uptoBulkAll parts + 1
  | .iface _ d => uptoBulk d + 1
  | .map entries => uptoBulkEntries entries + 1
  | .held _ => 1
def uptoBulkAll {H : Type} : List (DataW H) → Nat
  | [] => 0
  | d :: r => uptoBulk d + uptoBulkAll r
def uptoBulkEntries {H : Type} : List (Lit × DataW H) → Nat
  | [] => 0
  | x :: r => uptoBulkEntry x + uptoBulkEntries r
def uptoBulkEntry {H : Type} : Lit × DataW H → Nat
  | (.string bytes, d) => bytes.length + uptoBulk d + 1
  | (_, d) => uptoBulk d + 1
 end
def uptoSmall : (H : Type) → List (DataW H) → Bool := fun _ ds => decide (uptoBulkAll ds ≤ 1048576)
def OpenSpec.upto (s : _root_.Go.ChangeSpec) : _root_.Go.OpenSpec := { _root_.Go.OpenSpec.ofChange s with cond := some uptoSmall }

/-- 'almonrylaw17.CheckLays', WHERE WHAT IT READS IS OF BULK AT MOST 1048576: true; the input reads as it did. -/
def checkLaysUptoRow : OpenClaim := { program := "ytbhiijjnobcmoaa", sum := "d7fdbe0734f8d58fb494fc4cdfb72fb14c380b18c17aa1fc3221c42c3b1d7219", func := "almonry/almonrylaw17.CheckLays", spec := "checkLays", inPlace := ["internal/abi.NoEscape", "internal/bytealg.MakeNoZero"], unfollowed := true, recurses := true, apart := false, narrowed := true }
def CheckLaysUptoSaid : Prop := checkLaysUptoRow.holds Try.pinned (OpenSpec.upto checkLaysSpec)

/-- 'almonrylaw17.CheckBack', WHERE WHAT IT READS IS OF BULK AT MOST 1048576: true; the input reads as it did. -/
def checkBackUptoRow : OpenClaim := { program := "ytbhiijjnobcmoaa", sum := "d7fdbe0734f8d58fb494fc4cdfb72fb14c380b18c17aa1fc3221c42c3b1d7219", func := "almonry/almonrylaw17.CheckBack", spec := "checkBack", inPlace := ["internal/abi.NoEscape", "internal/bytealg.MakeNoZero"], unfollowed := true, recurses := true, apart := false, narrowed := true }
def CheckBackUptoSaid : Prop := checkBackUptoRow.holds Try.pinned (OpenSpec.upto checkBackSpec)

/-- 'almonrylaw17.CheckParts', WHERE WHAT IT READS IS OF BULK AT MOST 1048576: true; the input reads as it did. -/
def checkPartsUptoRow : OpenClaim := { program := "ytbhiijjnobcmoaa", sum := "d7fdbe0734f8d58fb494fc4cdfb72fb14c380b18c17aa1fc3221c42c3b1d7219", func := "almonry/almonrylaw17.CheckParts", spec := "checkParts", inPlace := ["internal/abi.NoEscape", "internal/bytealg.MakeNoZero"], unfollowed := true, recurses := true, apart := false, narrowed := true }
def CheckPartsUptoSaid : Prop := checkPartsUptoRow.holds Try.pinned (OpenSpec.upto checkPartsSpec)

/-- 'almonrylaw17.CheckReads', WHERE WHAT IT READS IS OF BULK AT MOST 1048576: true; the input reads as it did. -/
def checkReadsUptoRow : OpenClaim := { program := "ytbhiijjnobcmoaa", sum := "d7fdbe0734f8d58fb494fc4cdfb72fb14c380b18c17aa1fc3221c42c3b1d7219", func := "almonry/almonrylaw17.CheckReads", spec := "checkReads", inPlace := ["internal/abi.NoEscape", "internal/bytealg.MakeNoZero"], unfollowed := true, recurses := true, apart := false, narrowed := true }
def CheckReadsUptoSaid : Prop := checkReadsUptoRow.holds Try.pinned (OpenSpec.upto checkReadsSpec)

end Rows
end Go.Proofs.Ytbhiijjnobcmoaa
