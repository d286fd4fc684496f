/- How a version is read from its data. -/
import Derived.Test.YtkjnjccjkjachaaTupF
import Derived.Test.YtkjnjccjkjachaaRow
import Derived.Lib.SmallJoins
import Derived.SizedLaws
namespace Go.Proofs.Ytkjnjccjkjachaa
set_option maxRecDepth 100000
open Go.ChangeShapes Go.WideShapes Go.ChangeAt Go.RowKit

theorem array5 {α : Type} {cs : Array α} (h : cs.size = 5) : ∃ c0 c1 c2 c3 c4, cs = #[c0, c1, c2, c3, c4] := by
  obtain ⟨l⟩ := cs
  match l, h with
  | [c0, c1, c2, c3, c4], _ => exact ⟨c0, c1, c2, c3, c4, rfl⟩
theorem tup_open {H : Type} {enc : TypeId × Value → H} {W : World} {base : Nat} {v : Value} {d : DataW H} {p : List MemPlace} (hv : Value.okWide Try.prog W .any base 26 v)
    (h : DataW.Trod enc Try.prog W 0 (fun _ => true) true 26 v d p) :
    ∃ (x y : Int) (f : Bool) (k u : ByteArray), v = .agg #[.int .i64 x, .int .i64 y, .bool f, .string k, .string u] ∧ k.size ≤ maxLen ∧ u.size ≤ maxLen := by
  obtain ⟨cs, rfl, hsz⟩ := okWide_struct Try.underlying26 hv
  obtain ⟨c0, c1, c2, c3, c4, rfl⟩ := array5 (hsz.trans (by kernel_rfl))
  obtain ⟨fuel, hf⟩ := h
  obtain ⟨xs, n, _, _, _, hxl, hx⟩ := DataW.trod_struct Try.underlying26 hf
  match xs, hxl with
  | [y0, y1, y2, y3, y4], _ =>
    have e1 : Try.prog.cellsOf 3 = 1 := by kernel_rfl
    have e2 : Try.prog.cellsOf 4 = 1 := by kernel_rfl
    have e3 : Try.prog.cellsOf 9 = 1 := by kernel_rfl
    have g0 := hx 0 _ rfl
    have g1 := hx 1 _ rfl
    have g2 := hx 2 _ rfl
    have g3 := hx 3 _ rfl
    have g4 := hx 4 _ rfl
    simp [Value.cells, e1, e2, e3] at g0 g1 g2 g3 g4
    obtain ⟨x, k0, _, _⟩ := DataW.trod_int Try.underlying3 g0
    obtain ⟨y, k1, _, _⟩ := DataW.trod_int Try.underlying3 g1
    obtain ⟨f, k2, _⟩ := DataW.trod_bool Try.underlying4 g2
    obtain ⟨k, k3, _, hk⟩ := DataW.trod_string Try.underlying9 g3
    obtain ⟨u, k4, _, hu⟩ := DataW.trod_string Try.underlying9 g4
    simp only [List.cons.injEq, and_true] at k0 k1 k2 k3 k4
    exact ⟨x, y, f, k, u, by rw [k0, k1, k2, k3, k4], hk, hu⟩
end Go.Proofs.Ytkjnjccjkjachaa
