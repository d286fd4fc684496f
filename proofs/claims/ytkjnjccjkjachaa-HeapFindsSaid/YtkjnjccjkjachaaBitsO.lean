/- The reference's reader: numbers. -/
import Derived.Test.YtkjnjccjkjachaaBitsN
namespace Go.Proofs.Ytkjnjccjkjachaa
open Go.RowKit
set_option linter.unusedSimpArgs false
set_option maxRecDepth 100000

/-- What is left of a text behind a place. -/
def dropS (s : ByteArray) (a : Nat) : ByteArray := ⟨(s.data.toList.drop a).toArray⟩
theorem dropS_list (s : ByteArray) (a : Nat) : (dropS s a).data.toList = s.data.toList.drop a := by unfold dropS; rw [List.toList_toArray]

end Go.Proofs.Ytkjnjccjkjachaa
