/-
  No cell of these rows narrows 'for every input' (looked for: loops, veiled, ifaces, maps, wideKeys, modest, calm, conditions, laid).
  DERIVED. THE GIVEN ROWS OF THIS SEAT. 5 by the template 'for every input the law returns true; each argument reads behind the call as it read before'; 0 by the template 'total and deterministic' (their statements: YtpmhcpphbilokaaTotals.lean).
  GIVEN WITH THE SEED: the statements are not yours to turn. If you find one false, say at which input.
  Laid BY PROGRAM, IN A SANDBOX (cutbox-rows.mjs): the forced cells as the released guide's own fill.sh prints them over the translation 569e97a97a5103c9… (all of the seat's roots in one cut). By AI agents, Wed Nov 11 2026. No macro, syntax, notation, axiom, sorry.
-/
import Derived.Test.YtpmhcpphbilokaaChecked
import GoSem.Claim
import GoSem.ClaimJoined
import GoSem.ClaimMapViews
import Derived.JoinedTies
import Derived.KernelRfl
namespace Go.Proofs.Ytpmhcpphbilokaa
/- THE CELL 'sum', in the pinned program and in every row, IS THE sha256 OF THE DUMP (.gsa) THAT YtpmhcpphbilokaaProg.lean LOADS. Nothing in Lean hashes anything: it is a label: what it is worth is what the hold of that sum in a sandbox is worth. -/
noncomputable def Try.pinned : Pinned := { name := "ytpmhcpphbilokaa", sum := "569e97a97a5103c98ebad0de1446b096f9c9af808564755369fe5a0c024cee69", checked := Try.checked }
namespace Rows
def none {H : Type} : Left H := { results := [], args := [] }

/-- 'almonrylaw08.ClogPlays': WHATEVER THE INPUT: true; the input reads as it did. -/
def clogPlaysSpec : ChangeSpec := { name := "clogPlays", fn := fun _ => fun
  | [d1, d2, d3] => { results := [.lit (.bool true)], args := [d1, d2, d3] }
  | _ => none }
def clogPlaysRow : OpenClaim := { program := "ytpmhcpphbilokaa", sum := "569e97a97a5103c98ebad0de1446b096f9c9af808564755369fe5a0c024cee69", func := "almonry/almonrylaw08.ClogPlays", spec := "clogPlays", apart := false }
def ClogPlaysSaid : Prop := clogPlaysRow.holds Try.pinned (OpenSpec.ofChange clogPlaysSpec)

/-- ITS FALSE NEIGHBOUR: 'it returns false'. Refute it at one input. -/
def clogPlaysWrong : ChangeSpec := { name := "clogPlays", fn := fun _ => fun
  | [d1, d2, d3] => { results := [.lit (.bool false)], args := [d1, d2, d3] }
  | _ => none }
def ClogPlaysWrongFalsely : Prop := clogPlaysRow.holds Try.pinned (OpenSpec.ofChange clogPlaysWrong)

/-- 'almonrylaw08.ClogCuts': WHATEVER THE INPUT: true; the input reads as it did. -/
def clogCutsSpec : ChangeSpec := { name := "clogCuts", fn := fun _ => fun
  | [d1, d2, d3] => { results := [.lit (.bool true)], args := [d1, d2, d3] }
  | _ => none }
def clogCutsRow : OpenClaim := { program := "ytpmhcpphbilokaa", sum := "569e97a97a5103c98ebad0de1446b096f9c9af808564755369fe5a0c024cee69", func := "almonry/almonrylaw08.ClogCuts", spec := "clogCuts", apart := false }
def ClogCutsSaid : Prop := clogCutsRow.holds Try.pinned (OpenSpec.ofChange clogCutsSpec)

/-- ITS FALSE NEIGHBOUR: 'it returns false'. Refute it at one input. -/
def clogCutsWrong : ChangeSpec := { name := "clogCuts", fn := fun _ => fun
  | [d1, d2, d3] => { results := [.lit (.bool false)], args := [d1, d2, d3] }
  | _ => none }
def ClogCutsWrongFalsely : Prop := clogCutsRow.holds Try.pinned (OpenSpec.ofChange clogCutsWrong)

/-- 'almonrylaw08.ClogAny': WHATEVER THE INPUT: true; the input reads as it did. -/
def clogAnySpec : ChangeSpec := { name := "clogAny", fn := fun _ => fun
  | [d1, d2, d3] => { results := [.lit (.bool true)], args := [d1, d2, d3] }
  | _ => none }
def clogAnyRow : OpenClaim := { program := "ytpmhcpphbilokaa", sum := "569e97a97a5103c98ebad0de1446b096f9c9af808564755369fe5a0c024cee69", func := "almonry/almonrylaw08.ClogAny", spec := "clogAny", apart := false }
def ClogAnySaid : Prop := clogAnyRow.holds Try.pinned (OpenSpec.ofChange clogAnySpec)

/-- ITS FALSE NEIGHBOUR: 'it returns false'. Refute it at one input. -/
def clogAnyWrong : ChangeSpec := { name := "clogAny", fn := fun _ => fun
  | [d1, d2, d3] => { results := [.lit (.bool false)], args := [d1, d2, d3] }
  | _ => none }
def ClogAnyWrongFalsely : Prop := clogAnyRow.holds Try.pinned (OpenSpec.ofChange clogAnyWrong)

/-- 'almonrylaw08.ClogApart': WHATEVER THE INPUT: true; the input reads as it did. -/
def clogApartSpec : ChangeSpec := { name := "clogApart", fn := fun _ => fun
  | [d1, d2, d3] => { results := [.lit (.bool true)], args := [d1, d2, d3] }
  | _ => none }
def clogApartRow : OpenClaim := { program := "ytpmhcpphbilokaa", sum := "569e97a97a5103c98ebad0de1446b096f9c9af808564755369fe5a0c024cee69", func := "almonry/almonrylaw08.ClogApart", spec := "clogApart", apart := false }
def ClogApartSaid : Prop := clogApartRow.holds Try.pinned (OpenSpec.ofChange clogApartSpec)

/-- ITS FALSE NEIGHBOUR: 'it returns false'. Refute it at one input. -/
def clogApartWrong : ChangeSpec := { name := "clogApart", fn := fun _ => fun
  | [d1, d2, d3] => { results := [.lit (.bool false)], args := [d1, d2, d3] }
  | _ => none }
def ClogApartWrongFalsely : Prop := clogApartRow.holds Try.pinned (OpenSpec.ofChange clogApartWrong)

/-- 'almonrylaw08.ClogKeeps': WHATEVER THE INPUT: true; the input reads as it did. -/
def clogKeepsSpec : ChangeSpec := { name := "clogKeeps", fn := fun _ => fun
  | [d1, d2, d3] => { results := [.lit (.bool true)], args := [d1, d2, d3] }
  | _ => none }
def clogKeepsRow : OpenClaim := { program := "ytpmhcpphbilokaa", sum := "569e97a97a5103c98ebad0de1446b096f9c9af808564755369fe5a0c024cee69", func := "almonry/almonrylaw08.ClogKeeps", spec := "clogKeeps", inPlace := ["internal/abi.NoEscape", "internal/bytealg.MakeNoZero"], apart := false }
def ClogKeepsSaid : Prop := clogKeepsRow.holds Try.pinned (OpenSpec.ofChange clogKeepsSpec)

/-- ITS FALSE NEIGHBOUR: 'it returns false'. Refute it at one input. -/
def clogKeepsWrong : ChangeSpec := { name := "clogKeeps", fn := fun _ => fun
  | [d1, d2, d3] => { results := [.lit (.bool false)], args := [d1, d2, d3] }
  | _ => none }
def ClogKeepsWrongFalsely : Prop := clogKeepsRow.holds Try.pinned (OpenSpec.ofChange clogKeepsWrong)

/- THE SECOND FORM. 'bulk': how many values and letters a reading holds, each counted each time it is reached (what is shared counts as often as it is met; a slice's spare places count too). A statement '..UptoSaid' is the law's where the arguments, and the package variables that the reading takes, are together of bulk at most 1048576: NARROWER than '..Said'. Prove '..Said' where nothing that the law and all that it calls make is longer than what came in: it says more and counts as full. Else prove '..UptoSaid'. A law counts once. -/
mutual
def uptoBulk {H : Type} : DataW H → Nat
  | .lit (.string bytes) => bytes.length + 1
  | .lit _ => 1
  | .nil => 1
  | .ptr d => uptoBulk d + 1
  | .slice elems spare => uptoBulkAll elems + uptoBulkAll spare + 1
  | .agg parts => uptoBulkAll parts + 1
  | .iface _ d => uptoBulk d + 1
  | .map entries => uptoBulkEntries entries + 1
  | .held _ => 1
def uptoBulkAll {H : Type} : List (DataW H) → Nat
  | [] => 0
  | d :: r => uptoBulk d + uptoBulkAll r
def uptoBulkEntries {H : Type} : List (Lit × DataW H) → Nat
  | [] => 0
  | x :: r => uptoBulkEntry x + uptoBulkEntries r
def uptoBulkEntry {H : Type} : Lit × DataW H → Nat
  | (.string bytes, d) => bytes.length + uptoBulk d + 1
  | (_, d) => uptoBulk d + 1
 end
def uptoSmall : (H : Type) → List (DataW H) → Bool := fun _ ds => decide (uptoBulkAll ds ≤ 1048576)
def OpenSpec.upto (s : _root_.Go.ChangeSpec) : _root_.Go.OpenSpec := { _root_.Go.OpenSpec.ofChange s with cond := some uptoSmall }

/-- 'almonrylaw08.ClogPlays', WHERE WHAT IT READS IS OF BULK AT MOST 1048576: true; the input reads as it did. -/
def clogPlaysUptoRow : OpenClaim := { program := "ytpmhcpphbilokaa", sum := "569e97a97a5103c98ebad0de1446b096f9c9af808564755369fe5a0c024cee69", func := "almonry/almonrylaw08.ClogPlays", spec := "clogPlays", apart := false, narrowed := true }
def ClogPlaysUptoSaid : Prop := clogPlaysUptoRow.holds Try.pinned (OpenSpec.upto clogPlaysSpec)

/-- 'almonrylaw08.ClogCuts', WHERE WHAT IT READS IS OF BULK AT MOST 1048576: true; the input reads as it did. -/
def clogCutsUptoRow : OpenClaim := { program := "ytpmhcpphbilokaa", sum := "569e97a97a5103c98ebad0de1446b096f9c9af808564755369fe5a0c024cee69", func := "almonry/almonrylaw08.ClogCuts", spec := "clogCuts", apart := false, narrowed := true }
def ClogCutsUptoSaid : Prop := clogCutsUptoRow.holds Try.pinned (OpenSpec.upto clogCutsSpec)

/-- 'almonrylaw08.ClogAny', WHERE WHAT IT READS IS OF BULK AT MOST 1048576: true; the input reads as it did. -/
def clogAnyUptoRow : OpenClaim := { program := "ytpmhcpphbilokaa", sum := "569e97a97a5103c98ebad0de1446b096f9c9af808564755369fe5a0c024cee69", func := "almonry/almonrylaw08.ClogAny", spec := "clogAny", apart := false, narrowed := true }
def ClogAnyUptoSaid : Prop := clogAnyUptoRow.holds Try.pinned (OpenSpec.upto clogAnySpec)

/-- 'almonrylaw08.ClogApart', WHERE WHAT IT READS IS OF BULK AT MOST 1048576: true; the input reads as it did. -/
def clogApartUptoRow : OpenClaim := { program := "ytpmhcpphbilokaa", sum := "569e97a97a5103c98ebad0de1446b096f9c9af808564755369fe5a0c024cee69", func := "almonry/almonrylaw08.ClogApart", spec := "clogApart", apart := false, narrowed := true }
def ClogApartUptoSaid : Prop := clogApartUptoRow.holds Try.pinned (OpenSpec.upto clogApartSpec)

/-- 'almonrylaw08.ClogKeeps', WHERE WHAT IT READS IS OF BULK AT MOST 1048576: true; the input reads as it did. -/
def clogKeepsUptoRow : OpenClaim := { program := "ytpmhcpphbilokaa", sum := "569e97a97a5103c98ebad0de1446b096f9c9af808564755369fe5a0c024cee69", func := "almonry/almonrylaw08.ClogKeeps", spec := "clogKeeps", inPlace := ["internal/abi.NoEscape", "internal/bytealg.MakeNoZero"], apart := false, narrowed := true }
def ClogKeepsUptoSaid : Prop := clogKeepsUptoRow.holds Try.pinned (OpenSpec.upto clogKeepsSpec)

end Rows
end Go.Proofs.Ytpmhcpphbilokaa
