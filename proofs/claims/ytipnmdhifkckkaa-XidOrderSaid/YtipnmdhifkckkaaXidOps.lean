/- How a list of calls of the laws of layer 7 is read from its data. -/
import Derived.Test.YtipnmdhifkckkaaXidK
import Derived.ProofKit
import Derived.Deep.SlicePairs
import Derived.Lib.SmallJoins
namespace Go.Proofs.Ytipnmdhifkckkaa
open Go.ChangeShapes Go.WideShapes Go.ChangeAt Go.RowKit Go.Deep

theorem Try.cells_op : Try.prog.cellsOf 32 = 2 := by kernel_rfl
theorem Try.cells_int : Try.prog.cellsOf 3 = 1 := by kernel_rfl
theorem Try.cells_ops : Try.prog.cellsOf 39 = 2 := by kernel_rfl

theorem ops_read {H : Type} {enc : TypeId × Value → H} {W : World} {fuel : Nat} {c : Value} {x : DataW H × List MemPlace} (h : DataW.trod enc Try.prog W 0 (fun _ => true) true fuel 25 [c] = some x) :
    ∃ ao len cap A N, c = .slice ao len cap ∧ len ≤ 9223372036854775807 ∧ OpsIn W ao len A N := by
  rcases open_slice_pairs Try.underlying25 Try.underlying32 Try.cells_op rfl rfl Try.cells_int Try.cells_int h with ⟨hc, _⟩ | ⟨a, len, cap, m, n, V0, V1, D0, D1, P0, P1, hc, _, hl, hm, hmm, _, hx⟩
  · simp only [List.cons.injEq, and_true] at hc
    exact ⟨none, 0, 0, fun _ => 0, fun _ => 0, hc, by omega, fun i hi => by omega⟩
  · simp only [List.cons.injEq, and_true] at hc
    have hlm : len ≤ m := by rw [hmm]; simp; exact hl
    refine ⟨some a, len, cap, fun i => intOf (V0 i), fun i => intOf (V1 i), hc, by unfold maxLen at hm; omega, fun i hi => ?_⟩
    obtain ⟨h0, h1, h2, h3⟩ := hx i (by omega)
    obtain ⟨k0, e0, _, _⟩ := DataW.trod_int Try.underlying3 h2
    obtain ⟨k1, e1, _, _⟩ := DataW.trod_int Try.underlying3 h3
    simp only [List.cons.injEq, and_true] at e0 e1
    rw [e0] at h0
    rw [e1] at h1
    have hz := (hx 0 (by omega)).1
    obtain ⟨b, off, spot⟩ := a
    have hsp : spot = none := by simpa [Addr.add] using World.cell?_spot hz
    subst hsp
    rw [add_plain] at h0 h1
    refine ⟨b, off, rfl, ?_, ?_⟩
    · rw [h0]; show _ = some (Value.int .i64 (intOf (V0 i))); rw [e0]; rfl
    · rw [Nat.add_assoc, h1]; show _ = some (Value.int .i64 (intOf (V1 i))); rw [e1]; rfl
end Go.Proofs.Ytipnmdhifkckkaa
