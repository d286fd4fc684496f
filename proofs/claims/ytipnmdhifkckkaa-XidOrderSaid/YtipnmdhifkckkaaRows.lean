/-
  No cell of these rows narrows 'for every input' (looked for: loops, veiled, ifaces, maps, wideKeys, modest, calm, conditions, laid).
  DERIVED. THE GIVEN ROWS OF THIS SEAT. 6 by the template 'for every input the law returns true; each argument reads behind the call as it read before'; 0 by the template 'total and deterministic' (their statements: YtipnmdhifkckkaaTotals.lean).
  GIVEN WITH THE SEED: the statements are not yours to turn. If you find one false, say at which input.
  Laid BY PROGRAM, IN A SANDBOX (cutbox-rows.mjs): the forced cells as the released guide's own fill.sh prints them over the translation f34aac1bc69701a4… (all of the seat's roots in one cut). By AI agents, Wed Nov 11 2026. No macro, syntax, notation, axiom, sorry.
-/
import Derived.Test.YtipnmdhifkckkaaChecked
import GoSem.Claim
import GoSem.ClaimJoined
import GoSem.ClaimMapViews
import Derived.JoinedTies
import Derived.KernelRfl
namespace Go.Proofs.Ytipnmdhifkckkaa
/- THE CELL 'sum', in the pinned program and in every row, IS THE sha256 OF THE DUMP (.gsa) THAT YtipnmdhifkckkaaProg.lean LOADS. Nothing in Lean hashes anything: it is a label: what it is worth is what the hold of that sum in a sandbox is worth. -/
noncomputable def Try.pinned : Pinned := { name := "ytipnmdhifkckkaa", sum := "f34aac1bc69701a43f8b46a4af81a901eb29a9a926a72db68dfcd0406f511421", checked := Try.checked }
namespace Rows
def none {H : Type} : Left H := { results := [], args := [] }

/-- 'almonrylaw07.XidRings': WHATEVER THE INPUT: true; the input reads as it did. -/
def xidRingsSpec : ChangeSpec := { name := "xidRings", fn := fun _ => fun
  | [d1, d2, d3] => { results := [.lit (.bool true)], args := [d1, d2, d3] }
  | _ => none }
def xidRingsRow : OpenClaim := { program := "ytipnmdhifkckkaa", sum := "f34aac1bc69701a43f8b46a4af81a901eb29a9a926a72db68dfcd0406f511421", func := "almonry/almonrylaw07.XidRings", spec := "xidRings", apart := false }
def XidRingsSaid : Prop := xidRingsRow.holds Try.pinned (OpenSpec.ofChange xidRingsSpec)

/-- ITS FALSE NEIGHBOUR: 'it returns false'. Refute it at one input. -/
def xidRingsWrong : ChangeSpec := { name := "xidRings", fn := fun _ => fun
  | [d1, d2, d3] => { results := [.lit (.bool false)], args := [d1, d2, d3] }
  | _ => none }
def XidRingsWrongFalsely : Prop := xidRingsRow.holds Try.pinned (OpenSpec.ofChange xidRingsWrong)

/-- 'almonrylaw07.XidAdds': WHATEVER THE INPUT: true; the input reads as it did. -/
def xidAddsSpec : ChangeSpec := { name := "xidAdds", fn := fun _ => fun
  | [d1, d2, d3] => { results := [.lit (.bool true)], args := [d1, d2, d3] }
  | _ => none }
def xidAddsRow : OpenClaim := { program := "ytipnmdhifkckkaa", sum := "f34aac1bc69701a43f8b46a4af81a901eb29a9a926a72db68dfcd0406f511421", func := "almonry/almonrylaw07.XidAdds", spec := "xidAdds", apart := false }
def XidAddsSaid : Prop := xidAddsRow.holds Try.pinned (OpenSpec.ofChange xidAddsSpec)

/-- ITS FALSE NEIGHBOUR: 'it returns false'. Refute it at one input. -/
def xidAddsWrong : ChangeSpec := { name := "xidAdds", fn := fun _ => fun
  | [d1, d2, d3] => { results := [.lit (.bool false)], args := [d1, d2, d3] }
  | _ => none }
def XidAddsWrongFalsely : Prop := xidAddsRow.holds Try.pinned (OpenSpec.ofChange xidAddsWrong)

/-- 'almonrylaw07.XidOrder': WHATEVER THE INPUT: true; the input reads as it did. -/
def xidOrderSpec : ChangeSpec := { name := "xidOrder", fn := fun _ => fun
  | [d1, d2, d3] => { results := [.lit (.bool true)], args := [d1, d2, d3] }
  | _ => none }
def xidOrderRow : OpenClaim := { program := "ytipnmdhifkckkaa", sum := "f34aac1bc69701a43f8b46a4af81a901eb29a9a926a72db68dfcd0406f511421", func := "almonry/almonrylaw07.XidOrder", spec := "xidOrder", apart := false }
def XidOrderSaid : Prop := xidOrderRow.holds Try.pinned (OpenSpec.ofChange xidOrderSpec)

/-- ITS FALSE NEIGHBOUR: 'it returns false'. Refute it at one input. -/
def xidOrderWrong : ChangeSpec := { name := "xidOrder", fn := fun _ => fun
  | [d1, d2, d3] => { results := [.lit (.bool false)], args := [d1, d2, d3] }
  | _ => none }
def XidOrderWrongFalsely : Prop := xidOrderRow.holds Try.pinned (OpenSpec.ofChange xidOrderWrong)

/-- 'almonrylaw07.XidLeft': WHATEVER THE INPUT: true; the input reads as it did. -/
def xidLeftSpec : ChangeSpec := { name := "xidLeft", fn := fun _ => fun
  | [d1, d2, d3] => { results := [.lit (.bool true)], args := [d1, d2, d3] }
  | _ => none }
def xidLeftRow : OpenClaim := { program := "ytipnmdhifkckkaa", sum := "f34aac1bc69701a43f8b46a4af81a901eb29a9a926a72db68dfcd0406f511421", func := "almonry/almonrylaw07.XidLeft", spec := "xidLeft", apart := false }
def XidLeftSaid : Prop := xidLeftRow.holds Try.pinned (OpenSpec.ofChange xidLeftSpec)

/-- ITS FALSE NEIGHBOUR: 'it returns false'. Refute it at one input. -/
def xidLeftWrong : ChangeSpec := { name := "xidLeft", fn := fun _ => fun
  | [d1, d2, d3] => { results := [.lit (.bool false)], args := [d1, d2, d3] }
  | _ => none }
def XidLeftWrongFalsely : Prop := xidLeftRow.holds Try.pinned (OpenSpec.ofChange xidLeftWrong)

/-- 'almonrylaw07.XidCounts': WHATEVER THE INPUT: true; the input reads as it did. -/
def xidCountsSpec : ChangeSpec := { name := "xidCounts", fn := fun _ => fun
  | [d1, d2, d3] => { results := [.lit (.bool true)], args := [d1, d2, d3] }
  | _ => none }
def xidCountsRow : OpenClaim := { program := "ytipnmdhifkckkaa", sum := "f34aac1bc69701a43f8b46a4af81a901eb29a9a926a72db68dfcd0406f511421", func := "almonry/almonrylaw07.XidCounts", spec := "xidCounts", apart := false }
def XidCountsSaid : Prop := xidCountsRow.holds Try.pinned (OpenSpec.ofChange xidCountsSpec)

/-- ITS FALSE NEIGHBOUR: 'it returns false'. Refute it at one input. -/
def xidCountsWrong : ChangeSpec := { name := "xidCounts", fn := fun _ => fun
  | [d1, d2, d3] => { results := [.lit (.bool false)], args := [d1, d2, d3] }
  | _ => none }
def XidCountsWrongFalsely : Prop := xidCountsRow.holds Try.pinned (OpenSpec.ofChange xidCountsWrong)

/-- 'almonrylaw07.XidNil': WHATEVER THE INPUT: true; the input reads as it did. -/
def xidNilSpec : ChangeSpec := { name := "xidNil", fn := fun _ => fun
  | [d] => { results := [.lit (.bool true)], args := [d] }
  | _ => none }
def xidNilRow : OpenClaim := { program := "ytipnmdhifkckkaa", sum := "f34aac1bc69701a43f8b46a4af81a901eb29a9a926a72db68dfcd0406f511421", func := "almonry/almonrylaw07.XidNil", spec := "xidNil", apart := false }
def XidNilSaid : Prop := xidNilRow.holds Try.pinned (OpenSpec.ofChange xidNilSpec)

/-- ITS FALSE NEIGHBOUR: 'it returns false'. Refute it at one input. -/
def xidNilWrong : ChangeSpec := { name := "xidNil", fn := fun _ => fun
  | [d] => { results := [.lit (.bool false)], args := [d] }
  | _ => none }
def XidNilWrongFalsely : Prop := xidNilRow.holds Try.pinned (OpenSpec.ofChange xidNilWrong)

/- THE SECOND FORM. 'bulk': how many values and letters a reading holds, each counted each time it is reached (what is shared counts as often as it is met; a slice's spare places count too). A statement '..UptoSaid' is the law's where the arguments, and the package variables that the reading takes, are together of bulk at most 1048576: NARROWER than '..Said'. Prove '..Said' where nothing that the law and all that it calls make is longer than what came in: it says more and counts as full. Else prove '..UptoSaid'. A law counts once. -/
mutual
def uptoBulk {H : Type} : DataW H → Nat
  | .lit (.string bytes) => bytes.length + 1
  | .lit _ => 1
  | .nil => 1
  | .ptr d => uptoBulk d + 1
  | .slice elems spare => uptoBulkAll elems + uptoBulkAll spare + 1
  | .agg parts => uptoBulkAll parts + 1
  | .iface _ d => uptoBulk d + 1
  | .map entries => uptoBulkEntries entries + 1
  | .held _ => 1
def uptoBulkAll {H : Type} : List (DataW H) → Nat
  | [] => 0
  | d :: r => uptoBulk d + uptoBulkAll r
def uptoBulkEntries {H : Type} : List (Lit × DataW H) → Nat
  | [] => 0
  | x :: r => uptoBulkEntry x + uptoBulkEntries r
def uptoBulkEntry {H : Type} : Lit × DataW H → Nat
  | (.string bytes, d) => bytes.length + uptoBulk d + 1
  | (_, d) => uptoBulk d + 1
 end
def uptoSmall : (H : Type) → List (DataW H) → Bool := fun _ ds => decide (uptoBulkAll ds ≤ 1048576)
def OpenSpec.upto (s : _root_.Go.ChangeSpec) : _root_.Go.OpenSpec := { _root_.Go.OpenSpec.ofChange s with cond := some uptoSmall }

/-- 'almonrylaw07.XidRings', WHERE WHAT IT READS IS OF BULK AT MOST 1048576: true; the input reads as it did. -/
def xidRingsUptoRow : OpenClaim := { program := "ytipnmdhifkckkaa", sum := "f34aac1bc69701a43f8b46a4af81a901eb29a9a926a72db68dfcd0406f511421", func := "almonry/almonrylaw07.XidRings", spec := "xidRings", apart := false, narrowed := true }
def XidRingsUptoSaid : Prop := xidRingsUptoRow.holds Try.pinned (OpenSpec.upto xidRingsSpec)

/-- 'almonrylaw07.XidAdds', WHERE WHAT IT READS IS OF BULK AT MOST 1048576: true; the input reads as it did. -/
def xidAddsUptoRow : OpenClaim := { program := "ytipnmdhifkckkaa", sum := "f34aac1bc69701a43f8b46a4af81a901eb29a9a926a72db68dfcd0406f511421", func := "almonry/almonrylaw07.XidAdds", spec := "xidAdds", apart := false, narrowed := true }
def XidAddsUptoSaid : Prop := xidAddsUptoRow.holds Try.pinned (OpenSpec.upto xidAddsSpec)

/-- 'almonrylaw07.XidOrder', WHERE WHAT IT READS IS OF BULK AT MOST 1048576: true; the input reads as it did. -/
def xidOrderUptoRow : OpenClaim := { program := "ytipnmdhifkckkaa", sum := "f34aac1bc69701a43f8b46a4af81a901eb29a9a926a72db68dfcd0406f511421", func := "almonry/almonrylaw07.XidOrder", spec := "xidOrder", apart := false, narrowed := true }
def XidOrderUptoSaid : Prop := xidOrderUptoRow.holds Try.pinned (OpenSpec.upto xidOrderSpec)

/-- 'almonrylaw07.XidLeft', WHERE WHAT IT READS IS OF BULK AT MOST 1048576: true; the input reads as it did. -/
def xidLeftUptoRow : OpenClaim := { program := "ytipnmdhifkckkaa", sum := "f34aac1bc69701a43f8b46a4af81a901eb29a9a926a72db68dfcd0406f511421", func := "almonry/almonrylaw07.XidLeft", spec := "xidLeft", apart := false, narrowed := true }
def XidLeftUptoSaid : Prop := xidLeftUptoRow.holds Try.pinned (OpenSpec.upto xidLeftSpec)

/-- 'almonrylaw07.XidCounts', WHERE WHAT IT READS IS OF BULK AT MOST 1048576: true; the input reads as it did. -/
def xidCountsUptoRow : OpenClaim := { program := "ytipnmdhifkckkaa", sum := "f34aac1bc69701a43f8b46a4af81a901eb29a9a926a72db68dfcd0406f511421", func := "almonry/almonrylaw07.XidCounts", spec := "xidCounts", apart := false, narrowed := true }
def XidCountsUptoSaid : Prop := xidCountsUptoRow.holds Try.pinned (OpenSpec.upto xidCountsSpec)

/-- 'almonrylaw07.XidNil', WHERE WHAT IT READS IS OF BULK AT MOST 1048576: true; the input reads as it did. -/
def xidNilUptoRow : OpenClaim := { program := "ytipnmdhifkckkaa", sum := "f34aac1bc69701a43f8b46a4af81a901eb29a9a926a72db68dfcd0406f511421", func := "almonry/almonrylaw07.XidNil", spec := "xidNil", apart := false, narrowed := true }
def XidNilUptoSaid : Prop := xidNilUptoRow.holds Try.pinned (OpenSpec.upto xidNilSpec)

end Rows
end Go.Proofs.Ytipnmdhifkckkaa
