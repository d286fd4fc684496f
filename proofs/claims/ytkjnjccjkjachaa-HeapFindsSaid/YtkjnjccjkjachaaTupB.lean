/- Versions' bytes: the reference's; dead slots. -/
import Derived.Test.YtkjnjccjkjachaaTupA
namespace Go.Proofs.Ytkjnjccjkjachaa
open Go.RowKit
set_option linter.unusedSimpArgs false
set_option maxRecDepth 100000
attribute [local irreducible] wpQuiet

/-- While the reference lays a version. -/
structure EncR (W wx : World) (bt : Nat) (x y : Int) (k v : ByteArray) : Prop where
  c0 : wx.cell? ⟨bt, 0, none⟩ = some (.int .i64 x)
  c1 : wx.cell? ⟨bt, 1, none⟩ = some (.int .i64 y)
  c3 : wx.cell? ⟨bt, 3, none⟩ = some (.string k)
  c4 : wx.cell? ⟨bt, 4, none⟩ = some (.string v)
  bel : Below W.heap.size W wx
theorem EncR.below {W wx w' : World} {bt : Nat} {x y : Int} {k v : ByteArray} (h : EncR W wx bt x y k v) (hb : Below wx.heap.size wx w') : EncR W w' bt x y k v :=
  ⟨bel_at hb h.c0, bel_at hb h.c1, bel_at hb h.c3, bel_at hb h.c4, h.bel.trans (hb.mono h.bel.size)⟩

/-- A dead slot's bytes. -/
def deadL (k : ByteArray) : List UInt8 := 4 :: txl k
theorem deadL_eq (k : ByteArray) : [4] ++ txl k = deadL k := by unfold deadL; generalize txl k = T; rfl
theorem sev4 : sev 4 = [4] := by rw [sev_low (by decide)]; rfl

theorem num1L_c (bw B : Nat) (v : Value) (l L : List UInt8) (x : Int) (w0 w : World) (hL : sev x.toNat = L) (hw0 : WrV w0 bw B 5 v l) (hw : w = w0.alloc (.cells #[.int .i64 x] 3))
    (hx : x ≤ 9223372036854775807) (hlen : l.length + 9 ≤ 140737488355328) :
    Calls Try.prog 49 #[.pointer (some ⟨bw, 0, none⟩), .slice (some ⟨w0.heap.size, 0, none⟩) 1 1] w fun e w' => e = .returned (.tuple #[]) ∧ ∃ v', WS w0 v bw B 5 w' v' (l ++ L) := by
  subst hL; exact num1_c bw B v l x w0 w hw0 hw hx hlen
theorem sev4i : sev (Int.toNat 4) = [4] := by rw [show Int.toNat 4 = 4 from rfl]; exact sev4

end Go.Proofs.Ytkjnjccjkjachaa
