/-
  No cell of these rows narrows 'for every input' (looked for: loops, veiled, ifaces, maps, wideKeys, modest, calm, conditions, laid).
  DERIVED. THE GIVEN ROWS OF THIS SEAT. 8 by the template 'for every input the law returns true; each argument reads behind the call as it read before'; 0 by the template 'total and deterministic' (their statements: YtbpkeeadfbobdaaTotals.lean).
  GIVEN WITH THE SEED: the statements are not yours to turn. If you find one false, say at which input.
  Laid BY PROGRAM, IN A SANDBOX (cutbox-rows.mjs): the forced cells as the released guide's own fill.sh prints them over the translation 13c1fe6b345038b9… (all of the seat's roots in one cut). By AI agents, Wed Nov 11 2026. No macro, syntax, notation, axiom, sorry.
-/
import Derived.Test.YtbpkeeadfbobdaaChecked
import GoSem.Claim
import GoSem.ClaimJoined
import GoSem.ClaimMapViews
import Derived.JoinedTies
import Derived.KernelRfl
namespace Go.Proofs.Ytbpkeeadfbobdaa
/- THE CELL 'sum', in the pinned program and in every row, IS THE sha256 OF THE DUMP (.gsa) THAT YtbpkeeadfbobdaaProg.lean LOADS. Nothing in Lean hashes anything: it is a label: what it is worth is what the hold of that sum in a sandbox is worth. -/
noncomputable def Try.pinned : Pinned := { name := "ytbpkeeadfbobdaa", sum := "13c1fe6b345038b939fe1129dadf2d789f756d8e054443a96fdb0baec0978930", checked := Try.checked }
namespace Rows
def none {H : Type} : Left H := { results := [], args := [] }

/-- 'almonrylaw01.BitsSums': WHATEVER THE INPUT: true; the input reads as it did. -/
def bitsSumsSpec : ChangeSpec := { name := "bitsSums", fn := fun _ => fun
  | [d] => { results := [.lit (.bool true)], args := [d] }
  | _ => none }
def bitsSumsRow : OpenClaim := { program := "ytbpkeeadfbobdaa", sum := "13c1fe6b345038b939fe1129dadf2d789f756d8e054443a96fdb0baec0978930", func := "almonry/almonrylaw01.BitsSums", spec := "bitsSums", apart := false }
def BitsSumsSaid : Prop := bitsSumsRow.holds Try.pinned (OpenSpec.ofChange bitsSumsSpec)

/-- ITS FALSE NEIGHBOUR: 'it returns false'. Refute it at one input. -/
def bitsSumsWrong : ChangeSpec := { name := "bitsSums", fn := fun _ => fun
  | [d] => { results := [.lit (.bool false)], args := [d] }
  | _ => none }
def BitsSumsWrongFalsely : Prop := bitsSumsRow.holds Try.pinned (OpenSpec.ofChange bitsSumsWrong)

/-- 'almonrylaw01.BitsBig': WHATEVER THE INPUT: true; the input reads as it did. -/
def bitsBigSpec : ChangeSpec := { name := "bitsBig", fn := fun _ => fun
  | [d1, d2, d3] => { results := [.lit (.bool true)], args := [d1, d2, d3] }
  | _ => none }
def bitsBigRow : OpenClaim := { program := "ytbpkeeadfbobdaa", sum := "13c1fe6b345038b939fe1129dadf2d789f756d8e054443a96fdb0baec0978930", func := "almonry/almonrylaw01.BitsBig", spec := "bitsBig", apart := false }
def BitsBigSaid : Prop := bitsBigRow.holds Try.pinned (OpenSpec.ofChange bitsBigSpec)

/-- ITS FALSE NEIGHBOUR: 'it returns false'. Refute it at one input. -/
def bitsBigWrong : ChangeSpec := { name := "bitsBig", fn := fun _ => fun
  | [d1, d2, d3] => { results := [.lit (.bool false)], args := [d1, d2, d3] }
  | _ => none }
def BitsBigWrongFalsely : Prop := bitsBigRow.holds Try.pinned (OpenSpec.ofChange bitsBigWrong)

/-- 'almonrylaw01.BitsLays': WHATEVER THE INPUT: true; the input reads as it did. -/
def bitsLaysSpec : ChangeSpec := { name := "bitsLays", fn := fun _ => fun
  | [d1, d2] => { results := [.lit (.bool true)], args := [d1, d2] }
  | _ => none }
def bitsLaysRow : OpenClaim := { program := "ytbpkeeadfbobdaa", sum := "13c1fe6b345038b939fe1129dadf2d789f756d8e054443a96fdb0baec0978930", func := "almonry/almonrylaw01.BitsLays", spec := "bitsLays", apart := false }
def BitsLaysSaid : Prop := bitsLaysRow.holds Try.pinned (OpenSpec.ofChange bitsLaysSpec)

/-- ITS FALSE NEIGHBOUR: 'it returns false'. Refute it at one input. -/
def bitsLaysWrong : ChangeSpec := { name := "bitsLays", fn := fun _ => fun
  | [d1, d2] => { results := [.lit (.bool false)], args := [d1, d2] }
  | _ => none }
def BitsLaysWrongFalsely : Prop := bitsLaysRow.holds Try.pinned (OpenSpec.ofChange bitsLaysWrong)

/-- 'almonrylaw01.BitsTakes': WHATEVER THE INPUT: true; the input reads as it did. -/
def bitsTakesSpec : ChangeSpec := { name := "bitsTakes", fn := fun _ => fun
  | [d1, d2] => { results := [.lit (.bool true)], args := [d1, d2] }
  | _ => none }
def bitsTakesRow : OpenClaim := { program := "ytbpkeeadfbobdaa", sum := "13c1fe6b345038b939fe1129dadf2d789f756d8e054443a96fdb0baec0978930", func := "almonry/almonrylaw01.BitsTakes", spec := "bitsTakes", apart := false }
def BitsTakesSaid : Prop := bitsTakesRow.holds Try.pinned (OpenSpec.ofChange bitsTakesSpec)

/-- ITS FALSE NEIGHBOUR: 'it returns false'. Refute it at one input. -/
def bitsTakesWrong : ChangeSpec := { name := "bitsTakes", fn := fun _ => fun
  | [d1, d2] => { results := [.lit (.bool false)], args := [d1, d2] }
  | _ => none }
def BitsTakesWrongFalsely : Prop := bitsTakesRow.holds Try.pinned (OpenSpec.ofChange bitsTakesWrong)

/-- 'almonrylaw01.BitsBack': WHATEVER THE INPUT: true; the input reads as it did. -/
def bitsBackSpec : ChangeSpec := { name := "bitsBack", fn := fun _ => fun
  | [d] => { results := [.lit (.bool true)], args := [d] }
  | _ => none }
def bitsBackRow : OpenClaim := { program := "ytbpkeeadfbobdaa", sum := "13c1fe6b345038b939fe1129dadf2d789f756d8e054443a96fdb0baec0978930", func := "almonry/almonrylaw01.BitsBack", spec := "bitsBack", apart := false }
def BitsBackSaid : Prop := bitsBackRow.holds Try.pinned (OpenSpec.ofChange bitsBackSpec)

/-- ITS FALSE NEIGHBOUR: 'it returns false'. Refute it at one input. -/
def bitsBackWrong : ChangeSpec := { name := "bitsBack", fn := fun _ => fun
  | [d] => { results := [.lit (.bool false)], args := [d] }
  | _ => none }
def BitsBackWrongFalsely : Prop := bitsBackRow.holds Try.pinned (OpenSpec.ofChange bitsBackWrong)

/-- 'almonrylaw01.BitsThere': WHATEVER THE INPUT: true; the input reads as it did. -/
def bitsThereSpec : ChangeSpec := { name := "bitsThere", fn := fun _ => fun
  | [d1, d2] => { results := [.lit (.bool true)], args := [d1, d2] }
  | _ => none }
def bitsThereRow : OpenClaim := { program := "ytbpkeeadfbobdaa", sum := "13c1fe6b345038b939fe1129dadf2d789f756d8e054443a96fdb0baec0978930", func := "almonry/almonrylaw01.BitsThere", spec := "bitsThere", apart := false }
def BitsThereSaid : Prop := bitsThereRow.holds Try.pinned (OpenSpec.ofChange bitsThereSpec)

/-- ITS FALSE NEIGHBOUR: 'it returns false'. Refute it at one input. -/
def bitsThereWrong : ChangeSpec := { name := "bitsThere", fn := fun _ => fun
  | [d1, d2] => { results := [.lit (.bool false)], args := [d1, d2] }
  | _ => none }
def BitsThereWrongFalsely : Prop := bitsThereRow.holds Try.pinned (OpenSpec.ofChange bitsThereWrong)

/-- 'almonrylaw01.BitsTurned': WHATEVER THE INPUT: true; the input reads as it did. -/
def bitsTurnedSpec : ChangeSpec := { name := "bitsTurned", fn := fun _ => fun
  | [d1, d2, d3] => { results := [.lit (.bool true)], args := [d1, d2, d3] }
  | _ => none }
def bitsTurnedRow : OpenClaim := { program := "ytbpkeeadfbobdaa", sum := "13c1fe6b345038b939fe1129dadf2d789f756d8e054443a96fdb0baec0978930", func := "almonry/almonrylaw01.BitsTurned", spec := "bitsTurned", apart := false }
def BitsTurnedSaid : Prop := bitsTurnedRow.holds Try.pinned (OpenSpec.ofChange bitsTurnedSpec)

/-- ITS FALSE NEIGHBOUR: 'it returns false'. Refute it at one input. -/
def bitsTurnedWrong : ChangeSpec := { name := "bitsTurned", fn := fun _ => fun
  | [d1, d2, d3] => { results := [.lit (.bool false)], args := [d1, d2, d3] }
  | _ => none }
def BitsTurnedWrongFalsely : Prop := bitsTurnedRow.holds Try.pinned (OpenSpec.ofChange bitsTurnedWrong)

/-- 'almonrylaw01.BitsNil': WHATEVER THE INPUT: true; the input reads as it did. -/
def bitsNilSpec : ChangeSpec := { name := "bitsNil", fn := fun _ => fun
  | [d1, d2] => { results := [.lit (.bool true)], args := [d1, d2] }
  | _ => none }
def bitsNilRow : OpenClaim := { program := "ytbpkeeadfbobdaa", sum := "13c1fe6b345038b939fe1129dadf2d789f756d8e054443a96fdb0baec0978930", func := "almonry/almonrylaw01.BitsNil", spec := "bitsNil", apart := false }
def BitsNilSaid : Prop := bitsNilRow.holds Try.pinned (OpenSpec.ofChange bitsNilSpec)

/-- ITS FALSE NEIGHBOUR: 'it returns false'. Refute it at one input. -/
def bitsNilWrong : ChangeSpec := { name := "bitsNil", fn := fun _ => fun
  | [d1, d2] => { results := [.lit (.bool false)], args := [d1, d2] }
  | _ => none }
def BitsNilWrongFalsely : Prop := bitsNilRow.holds Try.pinned (OpenSpec.ofChange bitsNilWrong)

/- THE SECOND FORM. 'bulk': how many values and letters a reading holds, each counted each time it is reached (what is shared counts as often as it is met; a slice's spare places count too). A statement '..UptoSaid' is the law's where the arguments, and the package variables that the reading takes, are together of bulk at most 1048576: NARROWER than '..Said'. Prove '..Said' where nothing that the law and all that it calls make is longer than what came in: it says more and counts as full. Else prove '..UptoSaid'. A law counts once. -/
mutual
def uptoBulk {H : Type} : DataW H → Nat
  | .lit (.string bytes) => bytes.length + 1
  | .lit _ => 1
  | .nil => 1
  | .ptr d => uptoBulk d + 1
  | .slice elems spare => uptoBulkAll elems + uptoBulkAll spare + 1
  | .agg parts => uptoBulkAll parts + 1
  | .iface _ d => uptoBulk d + 1
  | .map entries => uptoBulkEntries entries + 1
  | .held _ => 1
def uptoBulkAll {H : Type} : List (DataW H) → Nat
  | [] => 0
  | d :: r => uptoBulk d + uptoBulkAll r
def uptoBulkEntries {H : Type} : List (Lit × DataW H) → Nat
  | [] => 0
  | x :: r => uptoBulkEntry x + uptoBulkEntries r
def uptoBulkEntry {H : Type} : Lit × DataW H → Nat
  | (.string bytes, d) => bytes.length + uptoBulk d + 1
  | (_, d) => uptoBulk d + 1
 end
def uptoSmall : (H : Type) → List (DataW H) → Bool := fun _ ds => decide (uptoBulkAll ds ≤ 1048576)
def OpenSpec.upto (s : _root_.Go.ChangeSpec) : _root_.Go.OpenSpec := { _root_.Go.OpenSpec.ofChange s with cond := some uptoSmall }

/-- 'almonrylaw01.BitsSums', WHERE WHAT IT READS IS OF BULK AT MOST 1048576: true; the input reads as it did. -/
def bitsSumsUptoRow : OpenClaim := { program := "ytbpkeeadfbobdaa", sum := "13c1fe6b345038b939fe1129dadf2d789f756d8e054443a96fdb0baec0978930", func := "almonry/almonrylaw01.BitsSums", spec := "bitsSums", apart := false, narrowed := true }
def BitsSumsUptoSaid : Prop := bitsSumsUptoRow.holds Try.pinned (OpenSpec.upto bitsSumsSpec)

/-- 'almonrylaw01.BitsBig', WHERE WHAT IT READS IS OF BULK AT MOST 1048576: true; the input reads as it did. -/
def bitsBigUptoRow : OpenClaim := { program := "ytbpkeeadfbobdaa", sum := "13c1fe6b345038b939fe1129dadf2d789f756d8e054443a96fdb0baec0978930", func := "almonry/almonrylaw01.BitsBig", spec := "bitsBig", apart := false, narrowed := true }
def BitsBigUptoSaid : Prop := bitsBigUptoRow.holds Try.pinned (OpenSpec.upto bitsBigSpec)

/-- 'almonrylaw01.BitsLays', WHERE WHAT IT READS IS OF BULK AT MOST 1048576: true; the input reads as it did. -/
def bitsLaysUptoRow : OpenClaim := { program := "ytbpkeeadfbobdaa", sum := "13c1fe6b345038b939fe1129dadf2d789f756d8e054443a96fdb0baec0978930", func := "almonry/almonrylaw01.BitsLays", spec := "bitsLays", apart := false, narrowed := true }
def BitsLaysUptoSaid : Prop := bitsLaysUptoRow.holds Try.pinned (OpenSpec.upto bitsLaysSpec)

/-- 'almonrylaw01.BitsTakes', WHERE WHAT IT READS IS OF BULK AT MOST 1048576: true; the input reads as it did. -/
def bitsTakesUptoRow : OpenClaim := { program := "ytbpkeeadfbobdaa", sum := "13c1fe6b345038b939fe1129dadf2d789f756d8e054443a96fdb0baec0978930", func := "almonry/almonrylaw01.BitsTakes", spec := "bitsTakes", apart := false, narrowed := true }
def BitsTakesUptoSaid : Prop := bitsTakesUptoRow.holds Try.pinned (OpenSpec.upto bitsTakesSpec)

/-- 'almonrylaw01.BitsBack', WHERE WHAT IT READS IS OF BULK AT MOST 1048576: true; the input reads as it did. -/
def bitsBackUptoRow : OpenClaim := { program := "ytbpkeeadfbobdaa", sum := "13c1fe6b345038b939fe1129dadf2d789f756d8e054443a96fdb0baec0978930", func := "almonry/almonrylaw01.BitsBack", spec := "bitsBack", apart := false, narrowed := true }
def BitsBackUptoSaid : Prop := bitsBackUptoRow.holds Try.pinned (OpenSpec.upto bitsBackSpec)

/-- 'almonrylaw01.BitsThere', WHERE WHAT IT READS IS OF BULK AT MOST 1048576: true; the input reads as it did. -/
def bitsThereUptoRow : OpenClaim := { program := "ytbpkeeadfbobdaa", sum := "13c1fe6b345038b939fe1129dadf2d789f756d8e054443a96fdb0baec0978930", func := "almonry/almonrylaw01.BitsThere", spec := "bitsThere", apart := false, narrowed := true }
def BitsThereUptoSaid : Prop := bitsThereUptoRow.holds Try.pinned (OpenSpec.upto bitsThereSpec)

/-- 'almonrylaw01.BitsTurned', WHERE WHAT IT READS IS OF BULK AT MOST 1048576: true; the input reads as it did. -/
def bitsTurnedUptoRow : OpenClaim := { program := "ytbpkeeadfbobdaa", sum := "13c1fe6b345038b939fe1129dadf2d789f756d8e054443a96fdb0baec0978930", func := "almonry/almonrylaw01.BitsTurned", spec := "bitsTurned", apart := false, narrowed := true }
def BitsTurnedUptoSaid : Prop := bitsTurnedUptoRow.holds Try.pinned (OpenSpec.upto bitsTurnedSpec)

/-- 'almonrylaw01.BitsNil', WHERE WHAT IT READS IS OF BULK AT MOST 1048576: true; the input reads as it did. -/
def bitsNilUptoRow : OpenClaim := { program := "ytbpkeeadfbobdaa", sum := "13c1fe6b345038b939fe1129dadf2d789f756d8e054443a96fdb0baec0978930", func := "almonry/almonrylaw01.BitsNil", spec := "bitsNil", apart := false, narrowed := true }
def BitsNilUptoSaid : Prop := bitsNilUptoRow.holds Try.pinned (OpenSpec.upto bitsNilSpec)

end Rows
end Go.Proofs.Ytbpkeeadfbobdaa
