/- How a page is read from its data. -/
import Derived.Test.YtkjnjccjkjachaaTupI
import Derived.Test.YtkjnjccjkjachaaTupRow
import Derived.Deep.Slices
namespace Go.Proofs.Ytkjnjccjkjachaa
set_option maxRecDepth 100000
open Go.ChangeShapes Go.WideShapes Go.ChangeAt Go.RowKit Go.Deep

theorem array6 {α : Type} {cs : Array α} (h : cs.size = 6) : ∃ c0 c1 c2 c3 c4 c5, cs = #[c0, c1, c2, c3, c4, c5] := by
  obtain ⟨l⟩ := cs
  match l, h with
  | [c0, c1, c2, c3, c4, c5], _ => exact ⟨c0, c1, c2, c3, c4, c5, rfl⟩
theorem strs_read {H : Type} {enc : TypeId × Value → H} {W : World} {fuel : Nat} {c : Value} {x : DataW H × List MemPlace} (h : DataW.trod enc Try.prog W 0 (fun _ => true) true fuel 22 [c] = some x) :
    ∃ ao len cap S, c = .slice ao len cap ∧ len ≤ 9223372036854775807 ∧ StrsIn W ao len S := by
  rcases open_slice1 Try.underlying22 (by kernel_rfl) h with ⟨hc, _⟩ | ⟨a, len, cap, m, n, V, D, Pl, hc, _, hl, hm, hmm, _, hx⟩
  · simp only [List.cons.injEq, and_true] at hc
    exact ⟨none, 0, 0, fun _ => ⟨#[]⟩, hc, by omega, fun i hi => by omega⟩
  · simp only [List.cons.injEq, and_true] at hc
    have hlm : len ≤ m := by rw [hmm]; simp; exact hl
    have hs : ∀ i, i < m → ∃ s : ByteArray, V i = .string s ∧ s.size ≤ maxLen := fun i hi => by
      obtain ⟨s, e0, _, e2⟩ := DataW.trod_string Try.underlying9 (hx i hi).2
      simp only [List.cons.injEq, and_true] at e0
      exact ⟨s, e0, e2⟩
    obtain ⟨S, hS⟩ := choose_lt hs
    refine ⟨some a, len, cap, S, hc, by unfold maxLen at hm; omega, fun i hi => ?_⟩
    have hz := (hx 0 (by omega)).1
    have hi2 := (hx i (by omega)).1
    obtain ⟨b, off, spot⟩ := a
    have hsp : spot = none := by simpa [Addr.add] using World.cell?_spot hz
    subst hsp
    rw [add_plain, (hS i (by omega)).1] at hi2
    exact ⟨b, off, rfl, hi2, maxl (hS i (by omega)).2⟩
theorem page_open {H : Type} {enc : TypeId × Value → H} {W : World} {base : Nat} {v : Value} {d : DataW H} {p : List MemPlace} (hv : Value.okWide Try.prog W .any base 24 v)
    (h : DataW.Trod enc Try.prog W 0 (fun _ => true) true 24 v d p) :
    ∃ (a0 a1 a2 a3 : Int) (h : ByteArray) (ao : Option Addr) (len cap : Nat) (S : Nat → ByteArray), v = .agg #[.int .i64 a0, .int .i64 a1, .int .i64 a2, .int .i64 a3, .string h, .slice ao len cap] ∧ len ≤ 9223372036854775807 ∧ StrsIn W ao len S := by
  obtain ⟨cs, rfl, hsz⟩ := okWide_struct Try.underlying24 hv
  obtain ⟨c0, c1, c2, c3, c4, c5, rfl⟩ := array6 (hsz.trans (by kernel_rfl))
  obtain ⟨fuel, hf⟩ := h
  obtain ⟨xs, n, _, _, _, hxl, hx⟩ := DataW.trod_struct Try.underlying24 hf
  match xs, hxl with
  | [y0, y1, y2, y3, y4, y5], _ =>
    have e1 : Try.prog.cellsOf 3 = 1 := by kernel_rfl
    have e2 : Try.prog.cellsOf 22 = 1 := by kernel_rfl
    have e3 : Try.prog.cellsOf 9 = 1 := by kernel_rfl
    have g0 := hx 0 _ rfl
    have g1 := hx 1 _ rfl
    have g2 := hx 2 _ rfl
    have g3 := hx 3 _ rfl
    have g4 := hx 4 _ rfl
    have g5 := hx 5 _ rfl
    simp [Value.cells, e1, e2, e3] at g0 g1 g2 g3 g4 g5
    obtain ⟨a0, k0, _, _⟩ := DataW.trod_int Try.underlying3 g0
    obtain ⟨a1, k1, _, _⟩ := DataW.trod_int Try.underlying3 g1
    obtain ⟨a2, k2, _, _⟩ := DataW.trod_int Try.underlying3 g2
    obtain ⟨a3, k3, _, _⟩ := DataW.trod_int Try.underlying3 g3
    obtain ⟨u, k4, _, _⟩ := DataW.trod_string Try.underlying9 g4
    obtain ⟨ao, len, cap, S, k5, hl, hs⟩ := strs_read g5
    simp only [List.cons.injEq, and_true] at k0 k1 k2 k3 k4
    exact ⟨a0, a1, a2, a3, u, ao, len, cap, S, by rw [k0, k1, k2, k3, k4, k5], hl, hs⟩
end Go.Proofs.Ytkjnjccjkjachaa
