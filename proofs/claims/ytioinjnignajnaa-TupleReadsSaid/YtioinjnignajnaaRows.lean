/-
  No cell of these rows narrows 'for every input' (looked for: loops, veiled, ifaces, maps, wideKeys, modest, calm, conditions, laid).
  DERIVED. THE GIVEN ROWS OF THIS SEAT. 6 by the template 'for every input the law returns true; each argument reads behind the call as it read before'; 0 by the template 'total and deterministic' (their statements: YtioinjnignajnaaTotals.lean).
  GIVEN WITH THE SEED: the statements are not yours to turn. If you find one false, say at which input.
  Laid BY PROGRAM, IN A SANDBOX (cutbox-rows.mjs): the forced cells as the released guide's own fill.sh prints them over the translation 47130a8439e41143… (all of the seat's roots in one cut). By AI agents, Wed Nov 11 2026. No macro, syntax, notation, axiom, sorry.
-/
import Derived.Test.YtioinjnignajnaaChecked
import GoSem.Claim
import GoSem.ClaimJoined
import GoSem.ClaimMapViews
import Derived.JoinedTies
import Derived.KernelRfl
namespace Go.Proofs.Ytioinjnignajnaa
/- THE CELL 'sum', in the pinned program and in every row, IS THE sha256 OF THE DUMP (.gsa) THAT YtioinjnignajnaaProg.lean LOADS. Nothing in Lean hashes anything: it is a label: what it is worth is what the hold of that sum in a sandbox is worth. -/
noncomputable def Try.pinned : Pinned := { name := "ytioinjnignajnaa", sum := "47130a8439e4114352dba1dba3679298ec0fd734592c19ee9d51019a61da3a5a", checked := Try.checked }
namespace Rows
def none {H : Type} : Left H := { results := [], args := [] }

/-- 'almonrylaw11.TupleWrites': WHATEVER THE INPUT: true; the input reads as it did. -/
def tupleWritesSpec : ChangeSpec := { name := "tupleWrites", fn := fun _ => fun
  | [d] => { results := [.lit (.bool true)], args := [d] }
  | _ => none }
def tupleWritesRow : OpenClaim := { program := "ytioinjnignajnaa", sum := "47130a8439e4114352dba1dba3679298ec0fd734592c19ee9d51019a61da3a5a", func := "almonry/almonrylaw11.TupleWrites", spec := "tupleWrites", apart := false }
def TupleWritesSaid : Prop := tupleWritesRow.holds Try.pinned (OpenSpec.ofChange tupleWritesSpec)

/-- ITS FALSE NEIGHBOUR: 'it returns false'. Refute it at one input. -/
def tupleWritesWrong : ChangeSpec := { name := "tupleWrites", fn := fun _ => fun
  | [d] => { results := [.lit (.bool false)], args := [d] }
  | _ => none }
def TupleWritesWrongFalsely : Prop := tupleWritesRow.holds Try.pinned (OpenSpec.ofChange tupleWritesWrong)

/-- 'almonrylaw11.TupleAlike': WHATEVER THE INPUT: true; the input reads as it did. -/
def tupleAlikeSpec : ChangeSpec := { name := "tupleAlike", fn := fun _ => fun
  | [d1, d2] => { results := [.lit (.bool true)], args := [d1, d2] }
  | _ => none }
def tupleAlikeRow : OpenClaim := { program := "ytioinjnignajnaa", sum := "47130a8439e4114352dba1dba3679298ec0fd734592c19ee9d51019a61da3a5a", func := "almonry/almonrylaw11.TupleAlike", spec := "tupleAlike", apart := false }
def TupleAlikeSaid : Prop := tupleAlikeRow.holds Try.pinned (OpenSpec.ofChange tupleAlikeSpec)

/-- ITS FALSE NEIGHBOUR: 'it returns false'. Refute it at one input. -/
def tupleAlikeWrong : ChangeSpec := { name := "tupleAlike", fn := fun _ => fun
  | [d1, d2] => { results := [.lit (.bool false)], args := [d1, d2] }
  | _ => none }
def TupleAlikeWrongFalsely : Prop := tupleAlikeRow.holds Try.pinned (OpenSpec.ofChange tupleAlikeWrong)

/-- 'almonrylaw11.TupleBack': WHATEVER THE INPUT: true; the input reads as it did. -/
def tupleBackSpec : ChangeSpec := { name := "tupleBack", fn := fun _ => fun
  | [d] => { results := [.lit (.bool true)], args := [d] }
  | _ => none }
def tupleBackRow : OpenClaim := { program := "ytioinjnignajnaa", sum := "47130a8439e4114352dba1dba3679298ec0fd734592c19ee9d51019a61da3a5a", func := "almonry/almonrylaw11.TupleBack", spec := "tupleBack", apart := false }
def TupleBackSaid : Prop := tupleBackRow.holds Try.pinned (OpenSpec.ofChange tupleBackSpec)

/-- ITS FALSE NEIGHBOUR: 'it returns false'. Refute it at one input. -/
def tupleBackWrong : ChangeSpec := { name := "tupleBack", fn := fun _ => fun
  | [d] => { results := [.lit (.bool false)], args := [d] }
  | _ => none }
def TupleBackWrongFalsely : Prop := tupleBackRow.holds Try.pinned (OpenSpec.ofChange tupleBackWrong)

/-- 'almonrylaw11.TupleThere': WHATEVER THE INPUT: true; the input reads as it did. -/
def tupleThereSpec : ChangeSpec := { name := "tupleThere", fn := fun _ => fun
  | [d] => { results := [.lit (.bool true)], args := [d] }
  | _ => none }
def tupleThereRow : OpenClaim := { program := "ytioinjnignajnaa", sum := "47130a8439e4114352dba1dba3679298ec0fd734592c19ee9d51019a61da3a5a", func := "almonry/almonrylaw11.TupleThere", spec := "tupleThere", apart := false }
def TupleThereSaid : Prop := tupleThereRow.holds Try.pinned (OpenSpec.ofChange tupleThereSpec)

/-- ITS FALSE NEIGHBOUR: 'it returns false'. Refute it at one input. -/
def tupleThereWrong : ChangeSpec := { name := "tupleThere", fn := fun _ => fun
  | [d] => { results := [.lit (.bool false)], args := [d] }
  | _ => none }
def TupleThereWrongFalsely : Prop := tupleThereRow.holds Try.pinned (OpenSpec.ofChange tupleThereWrong)

/-- 'almonrylaw11.TupleSlots': WHATEVER THE INPUT: true; the input reads as it did. -/
def tupleSlotsSpec : ChangeSpec := { name := "tupleSlots", fn := fun _ => fun
  | [d] => { results := [.lit (.bool true)], args := [d] }
  | _ => none }
def tupleSlotsRow : OpenClaim := { program := "ytioinjnignajnaa", sum := "47130a8439e4114352dba1dba3679298ec0fd734592c19ee9d51019a61da3a5a", func := "almonry/almonrylaw11.TupleSlots", spec := "tupleSlots", apart := false }
def TupleSlotsSaid : Prop := tupleSlotsRow.holds Try.pinned (OpenSpec.ofChange tupleSlotsSpec)

/-- ITS FALSE NEIGHBOUR: 'it returns false'. Refute it at one input. -/
def tupleSlotsWrong : ChangeSpec := { name := "tupleSlots", fn := fun _ => fun
  | [d] => { results := [.lit (.bool false)], args := [d] }
  | _ => none }
def TupleSlotsWrongFalsely : Prop := tupleSlotsRow.holds Try.pinned (OpenSpec.ofChange tupleSlotsWrong)

/-- 'almonrylaw11.TupleReads': WHATEVER THE INPUT: true; the input reads as it did. -/
def tupleReadsSpec : ChangeSpec := { name := "tupleReads", fn := fun _ => fun
  | [d1, d2] => { results := [.lit (.bool true)], args := [d1, d2] }
  | _ => none }
def tupleReadsRow : OpenClaim := { program := "ytioinjnignajnaa", sum := "47130a8439e4114352dba1dba3679298ec0fd734592c19ee9d51019a61da3a5a", func := "almonry/almonrylaw11.TupleReads", spec := "tupleReads", apart := false }
def TupleReadsSaid : Prop := tupleReadsRow.holds Try.pinned (OpenSpec.ofChange tupleReadsSpec)

/-- ITS FALSE NEIGHBOUR: 'it returns false'. Refute it at one input. -/
def tupleReadsWrong : ChangeSpec := { name := "tupleReads", fn := fun _ => fun
  | [d1, d2] => { results := [.lit (.bool false)], args := [d1, d2] }
  | _ => none }
def TupleReadsWrongFalsely : Prop := tupleReadsRow.holds Try.pinned (OpenSpec.ofChange tupleReadsWrong)

/- THE SECOND FORM. 'bulk': how many values and letters a reading holds, each counted each time it is reached (what is shared counts as often as it is met; a slice's spare places count too). A statement '..UptoSaid' is the law's where the arguments, and the package variables that the reading takes, are together of bulk at most 1048576: NARROWER than '..Said'. Prove '..Said' where nothing that the law and all that it calls make is longer than what came in: it says more and counts as full. Else prove '..UptoSaid'. A law counts once. -/
mutual
def uptoBulk {H : Type} : DataW H → Nat
  | .lit (.string bytes) => bytes.length + 1
  | .lit _ => 1
  | .nil => 1
  | .ptr d => uptoBulk d + 1
  | .slice elems spare => uptoBulkAll elems + uptoBulkAll spare + 1
  | .agg parts => uptoBulkAll parts + 1
  | .iface _ d => uptoBulk d + 1
  | .map entries => uptoBulkEntries entries + 1
  | .held _ => 1
def uptoBulkAll {H : Type} : List (DataW H) → Nat
  | [] => 0
  | d :: r => uptoBulk d + uptoBulkAll r
def uptoBulkEntries {H : Type} : List (Lit × DataW H) → Nat
  | [] => 0
  | x :: r => uptoBulkEntry x + uptoBulkEntries r
def uptoBulkEntry {H : Type} : Lit × DataW H → Nat
  | (.string bytes, d) => bytes.length + uptoBulk d + 1
  | (_, d) => uptoBulk d + 1
 end
def uptoSmall : (H : Type) → List (DataW H) → Bool := fun _ ds => decide (uptoBulkAll ds ≤ 1048576)
def OpenSpec.upto (s : _root_.Go.ChangeSpec) : _root_.Go.OpenSpec := { _root_.Go.OpenSpec.ofChange s with cond := some uptoSmall }

/-- 'almonrylaw11.TupleWrites', WHERE WHAT IT READS IS OF BULK AT MOST 1048576: true; the input reads as it did. -/
def tupleWritesUptoRow : OpenClaim := { program := "ytioinjnignajnaa", sum := "47130a8439e4114352dba1dba3679298ec0fd734592c19ee9d51019a61da3a5a", func := "almonry/almonrylaw11.TupleWrites", spec := "tupleWrites", apart := false, narrowed := true }
def TupleWritesUptoSaid : Prop := tupleWritesUptoRow.holds Try.pinned (OpenSpec.upto tupleWritesSpec)

/-- 'almonrylaw11.TupleAlike', WHERE WHAT IT READS IS OF BULK AT MOST 1048576: true; the input reads as it did. -/
def tupleAlikeUptoRow : OpenClaim := { program := "ytioinjnignajnaa", sum := "47130a8439e4114352dba1dba3679298ec0fd734592c19ee9d51019a61da3a5a", func := "almonry/almonrylaw11.TupleAlike", spec := "tupleAlike", apart := false, narrowed := true }
def TupleAlikeUptoSaid : Prop := tupleAlikeUptoRow.holds Try.pinned (OpenSpec.upto tupleAlikeSpec)

/-- 'almonrylaw11.TupleBack', WHERE WHAT IT READS IS OF BULK AT MOST 1048576: true; the input reads as it did. -/
def tupleBackUptoRow : OpenClaim := { program := "ytioinjnignajnaa", sum := "47130a8439e4114352dba1dba3679298ec0fd734592c19ee9d51019a61da3a5a", func := "almonry/almonrylaw11.TupleBack", spec := "tupleBack", apart := false, narrowed := true }
def TupleBackUptoSaid : Prop := tupleBackUptoRow.holds Try.pinned (OpenSpec.upto tupleBackSpec)

/-- 'almonrylaw11.TupleThere', WHERE WHAT IT READS IS OF BULK AT MOST 1048576: true; the input reads as it did. -/
def tupleThereUptoRow : OpenClaim := { program := "ytioinjnignajnaa", sum := "47130a8439e4114352dba1dba3679298ec0fd734592c19ee9d51019a61da3a5a", func := "almonry/almonrylaw11.TupleThere", spec := "tupleThere", apart := false, narrowed := true }
def TupleThereUptoSaid : Prop := tupleThereUptoRow.holds Try.pinned (OpenSpec.upto tupleThereSpec)

/-- 'almonrylaw11.TupleSlots', WHERE WHAT IT READS IS OF BULK AT MOST 1048576: true; the input reads as it did. -/
def tupleSlotsUptoRow : OpenClaim := { program := "ytioinjnignajnaa", sum := "47130a8439e4114352dba1dba3679298ec0fd734592c19ee9d51019a61da3a5a", func := "almonry/almonrylaw11.TupleSlots", spec := "tupleSlots", apart := false, narrowed := true }
def TupleSlotsUptoSaid : Prop := tupleSlotsUptoRow.holds Try.pinned (OpenSpec.upto tupleSlotsSpec)

/-- 'almonrylaw11.TupleReads', WHERE WHAT IT READS IS OF BULK AT MOST 1048576: true; the input reads as it did. -/
def tupleReadsUptoRow : OpenClaim := { program := "ytioinjnignajnaa", sum := "47130a8439e4114352dba1dba3679298ec0fd734592c19ee9d51019a61da3a5a", func := "almonry/almonrylaw11.TupleReads", spec := "tupleReads", apart := false, narrowed := true }
def TupleReadsUptoSaid : Prop := tupleReadsUptoRow.holds Try.pinned (OpenSpec.upto tupleReadsSpec)

end Rows
end Go.Proofs.Ytioinjnignajnaa
