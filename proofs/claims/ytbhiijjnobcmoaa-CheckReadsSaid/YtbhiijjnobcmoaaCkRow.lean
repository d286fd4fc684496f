/- How configurations, control blocks and what is owed are read from their data. -/
import Derived.Test.YtbhiijjnobcmoaaCkG
import Derived.Test.YtbhiijjnobcmoaaRow
import Derived.Test.YtbhiijjnobcmoaaRows
import Derived.Lib.SmallJoins
import Derived.Deep.SlicePairs
import Derived.Deep.Slices
namespace Go.Proofs.Ytbhiijjnobcmoaa
open Go.ChangeShapes Go.WideShapes Go.ChangeAt Go.RowKit Go.Deep
set_option maxRecDepth 100000

theorem array4 {α : Type} {cs : Array α} (h : cs.size = 4) : ∃ c0 c1 c2 c3, cs = #[c0, c1, c2, c3] := by
  obtain ⟨l⟩ := cs
  match l, h with
  | [c0, c1, c2, c3], _ => exact ⟨c0, c1, c2, c3, rfl⟩
theorem array7 {α : Type} {cs : Array α} (h : cs.size = 7) : ∃ c0 c1 c2 c3 c4 c5 c6, cs = #[c0, c1, c2, c3, c4, c5, c6] := by
  obtain ⟨l⟩ := cs
  match l, h with
  | [c0, c1, c2, c3, c4, c5, c6], _ => exact ⟨c0, c1, c2, c3, c4, c5, c6, rfl⟩
theorem cfg_trod {H : Type} {enc : TypeId × Value → H} {W : World} {fuel : Nat} {c0 c1 c2 c3 : Value} {x : DataW H × List MemPlace} (h : DataW.trod enc Try.prog W 0 (fun _ => true) true fuel 23 [c0, c1, c2, c3] = some x) :
    ∃ (a b c d : Int), c0 = .int .i64 a ∧ c1 = .int .i64 b ∧ c2 = .int .i64 c ∧ c3 = .int .i64 d := by
  obtain ⟨xs, n, _, _, _, hxl, hx⟩ := DataW.trod_struct Try.underlying23 h
  match xs, hxl with
  | [y0, y1, y2, y3], _ =>
    have e1 : Try.prog.cellsOf 3 = 1 := by kernel_rfl
    have g0 := hx 0 _ rfl
    have g1 := hx 1 _ rfl
    have g2 := hx 2 _ rfl
    have g3 := hx 3 _ rfl
    simp [e1] at g0 g1 g2 g3
    obtain ⟨a, k0, _, _⟩ := DataW.trod_int Try.underlying3 g0
    obtain ⟨b, k1, _, _⟩ := DataW.trod_int Try.underlying3 g1
    obtain ⟨c, k2, _, _⟩ := DataW.trod_int Try.underlying3 g2
    obtain ⟨d, k3, _, _⟩ := DataW.trod_int Try.underlying3 g3
    simp only [List.cons.injEq, and_true] at k0 k1 k2 k3
    exact ⟨a, b, c, d, k0, k1, k2, k3⟩
theorem cfg_open {H : Type} {enc : TypeId × Value → H} {W : World} {base : Nat} {v : Value} {d : DataW H} {p : List MemPlace} (hv : Value.okWide Try.prog W .any base 23 v)
    (h : DataW.Trod enc Try.prog W 0 (fun _ => true) true 23 v d p) :
    ∃ (a b c d : Int), v = .agg #[.int .i64 a, .int .i64 b, .int .i64 c, .int .i64 d] := by
  obtain ⟨cs, rfl, hsz⟩ := okWide_struct Try.underlying23 hv
  obtain ⟨c0, c1, c2, c3, rfl⟩ := array4 (hsz.trans (by kernel_rfl))
  obtain ⟨fuel, hf⟩ := h
  obtain ⟨a, b, c, d, rfl, rfl, rfl, rfl⟩ := cfg_trod (by simpa [Value.cells] using hf)
  exact ⟨a, b, c, d, rfl⟩
theorem ctl_open {H : Type} {enc : TypeId × Value → H} {W : World} {base : Nat} {v : Value} {d : DataW H} {p : List MemPlace} (hv : Value.okWide Try.prog W .any base 25 v)
    (h : DataW.Trod enc Try.prog W 0 (fun _ => true) true 25 v d p) :
    ∃ (a b c d n s k : Int), v = .agg #[.int .i64 a, .int .i64 b, .int .i64 c, .int .i64 d, .int .i64 n, .int .i64 s, .int .i64 k] := by
  obtain ⟨cs, rfl, hsz⟩ := okWide_struct Try.underlying25 hv
  obtain ⟨c0, c1, c2, c3, c4, c5, c6, rfl⟩ := array7 (hsz.trans (by kernel_rfl))
  obtain ⟨fuel, hf⟩ := h
  obtain ⟨xs, m, _, _, _, hxl, hx⟩ := DataW.trod_struct Try.underlying25 hf
  match xs, hxl with
  | [y0, y1, y2, y3], _ =>
    have e1 : Try.prog.cellsOf 3 = 1 := by kernel_rfl
    have e4 : Try.prog.cellsOf 23 = 4 := by kernel_rfl
    have g0 := hx 0 _ rfl
    have g1 := hx 1 _ rfl
    have g2 := hx 2 _ rfl
    have g3 := hx 3 _ rfl
    simp [Value.cells, e1, e4] at g0 g1 g2 g3
    obtain ⟨a, b, c, d, k0, k1, k2, k3⟩ := cfg_trod g0
    obtain ⟨n, k4, _, _⟩ := DataW.trod_int Try.underlying3 g1
    obtain ⟨s, k5, _, _⟩ := DataW.trod_int Try.underlying3 g2
    obtain ⟨k, k6, _, _⟩ := DataW.trod_int Try.underlying3 g3
    simp only [List.cons.injEq, and_true] at k4 k5 k6
    exact ⟨a, b, c, d, n, s, k, by rw [k0, k1, k2, k3, k4, k5, k6]⟩
theorem add_plain (b off k : Nat) : Addr.add ⟨b, off, none⟩ k = ⟨b, off + k, none⟩ := by simp [Addr.add]
theorem owed_read {H : Type} {enc : TypeId × Value → H} {W : World} {fuel : Nat} {c : Value} {x : DataW H × List MemPlace} (h : DataW.trod enc Try.prog W 0 (fun _ => true) true fuel 26 [c] = some x) :
    ∃ ao len cap P L, c = .slice ao len cap ∧ len ≤ 9223372036854775807 ∧ OwedIn W ao len P L := by
  rcases open_slice_pairs Try.underlying26 Try.underlying59 (by kernel_rfl) rfl rfl (by kernel_rfl) (by kernel_rfl) h with ⟨hc, hx⟩ | ⟨a, len, cap, m, n, V0, V1, D0, D1, P0, P1, hc, _, hl, hm, hmm, _, hx⟩
  · simp only [List.cons.injEq, and_true] at hc
    exact ⟨none, 0, 0, fun _ => 0, fun _ => 0, hc, by omega, fun i hi => by omega⟩
  · simp only [List.cons.injEq, and_true] at hc
    have hlm : len ≤ m := by rw [hmm]; simp; exact hl
    have hcs : ∀ i, i < m → ∃ q : Int × Int, V0 i = .int .i64 q.1 ∧ V1 i = .int .i64 q.2 := fun i hi => by
      obtain ⟨h0, h1, h2, h3⟩ := hx i hi
      obtain ⟨x, e0, _, _⟩ := DataW.trod_int Try.underlying3 h2
      obtain ⟨y, e1, _, _⟩ := DataW.trod_int Try.underlying3 h3
      simp only [List.cons.injEq, and_true] at e0 e1
      exact ⟨(x, y), e0, e1⟩
    obtain ⟨q, hq⟩ := choose_lt hcs
    refine ⟨some a, len, cap, fun i => (q i).1, fun i => (q i).2, hc, by unfold maxLen at hm; omega, fun i hi => ?_⟩
    obtain ⟨h0, h1, _⟩ := hx i (by omega)
    obtain ⟨e0, e1⟩ := hq i (by omega)
    rw [e0] at h0
    rw [e1] at h1
    have hz := (hx 0 (by omega)).1
    obtain ⟨b, off, spot⟩ := a
    have hsp : spot = none := by simpa [Addr.add] using World.cell?_spot hz
    subst hsp
    rw [add_plain] at h0 h1
    exact ⟨b, off, rfl, h0, h1⟩
end Go.Proofs.Ytbhiijjnobcmoaa
