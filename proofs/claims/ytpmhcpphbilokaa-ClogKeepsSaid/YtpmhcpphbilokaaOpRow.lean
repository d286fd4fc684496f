/- How changes and pages are read from their data. -/
import Derived.Test.YtpmhcpphbilokaaClogM
import Derived.Test.YtpmhcpphbilokaaTrips
import Derived.Lib.SmallJoins
import Derived.Deep.Slices
namespace Go.Proofs.Ytpmhcpphbilokaa
open Go.ChangeShapes Go.WideShapes Go.ChangeAt Go.RowKit Go.Deep
set_option maxRecDepth 100000

theorem litu8 {n : Int} (h : (Lit.int .u8 n).wf = true) : 0 ≤ n ∧ n ≤ 255 := by
  simp [Lit.wf] at h
  have e1 : IntKind.u8.min = 0 := rfl
  have e2 : IntKind.u8.max = 255 := rfl
  omega
theorem array3 {α : Type} {cs : Array α} (h : cs.size = 3) : ∃ c0 c1 c2, cs = #[c0, c1, c2] := by
  obtain ⟨l⟩ := cs
  match l, h with
  | [c0, c1, c2], _ => exact ⟨c0, c1, c2, rfl⟩
theorem array2 {α : Type} {cs : Array α} (h : cs.size = 2) : ∃ c0 c1, cs = #[c0, c1] := by
  obtain ⟨l⟩ := cs
  match l, h with
  | [c0, c1], _ => exact ⟨c0, c1, rfl⟩
theorem array6 {α : Type} {cs : Array α} (h : cs.size = 6) : ∃ c0 c1 c2 c3 c4 c5, cs = #[c0, c1, c2, c3, c4, c5] := by
  obtain ⟨l⟩ := cs
  match l, h with
  | [c0, c1, c2, c3, c4, c5], _ => exact ⟨c0, c1, c2, c3, c4, c5, rfl⟩
theorem op_open {H : Type} {enc : TypeId × Value → H} {W : World} {base : Nat} {v : Value} {d : DataW H} {p : List MemPlace} (hv : Value.okWide Try.prog W .any base 32 v)
    (h : DataW.Trod enc Try.prog W 0 (fun _ => true) true 32 v d p) :
    ∃ (c : Bool) (x s : Int), v = .agg #[.bool c, .int .i64 x, .int .u8 s] ∧ (-9223372036854775808 ≤ x ∧ x ≤ 9223372036854775807) ∧ 0 ≤ s ∧ s ≤ 255 := by
  obtain ⟨cs, rfl, hsz⟩ := okWide_struct Try.underlying32 hv
  obtain ⟨c0, c1, c2, rfl⟩ := array3 (hsz.trans (by kernel_rfl))
  obtain ⟨fuel, hf⟩ := h
  obtain ⟨xs, n, _, _, _, hxl, hx⟩ := DataW.trod_struct Try.underlying32 hf
  match xs, hxl with
  | [y0, y1, y2], _ =>
    have e1 : Try.prog.cellsOf 3 = 1 := by kernel_rfl
    have e2 : Try.prog.cellsOf 4 = 1 := by kernel_rfl
    have e3 : Try.prog.cellsOf 30 = 1 := by kernel_rfl
    have g0 := hx 0 _ rfl
    have g1 := hx 1 _ rfl
    have g2 := hx 2 _ rfl
    simp [Value.cells, e1, e2, e3] at g0 g1 g2
    obtain ⟨c, k0, _⟩ := DataW.trod_bool Try.underlying4 g0
    obtain ⟨x, k1, _, w1⟩ := DataW.trod_int Try.underlying3 g1
    obtain ⟨s, k2, _, w2⟩ := DataW.trod_int Try.underlying30 g2
    simp only [List.cons.injEq, and_true] at k0 k1 k2
    exact ⟨c, x, s, by rw [k0, k1, k2], lit64 w1, litu8 w2⟩

/-- Changes lie in memory. -/
def OpsIn (w : World) (ao : Option Addr) (len : Nat) (C : Nat → Bool) (X T : Nat → Int) : Prop :=
  ∀ i, i < len → (∃ b off, ao = some ⟨b, off, none⟩ ∧ w.cell? ⟨b, off + i * 3, none⟩ = some (.bool (C i)) ∧ w.cell? ⟨b, off + (i * 3 + 1), none⟩ = some (.int .i64 (X i)) ∧ w.cell? ⟨b, off + (i * 3 + 2), none⟩ = some (.int .u8 (T i))) ∧ (-9223372036854775808 ≤ X i ∧ X i ≤ 9223372036854775807) ∧ 0 ≤ T i
theorem OpsIn.below {w w' : World} {ao : Option Addr} {len : Nat} {C : Nat → Bool} {X T : Nat → Int} (h : OpsIn w ao len C X T) (hb : Below w.heap.size w w') : OpsIn w' ao len C X T := fun i hi => by
  obtain ⟨⟨b, off, e, h0, h1, h2⟩, hr⟩ := h i hi
  exact ⟨⟨b, off, e, bel_at hb h0, bel_at hb h1, bel_at hb h2⟩, hr⟩
theorem ops_read {H : Type} {enc : TypeId × Value → H} {W : World} {fuel : Nat} {c : Value} {x : DataW H × List MemPlace} (h : DataW.trod enc Try.prog W 0 (fun _ => true) true fuel 22 [c] = some x) :
    ∃ ao len cap C X T, c = .slice ao len cap ∧ len ≤ 9223372036854775807 ∧ OpsIn W ao len C X T := by
  rcases open_slice_trips Try.underlying22 Try.underlying32 (by kernel_rfl) rfl rfl rfl (by kernel_rfl) (by kernel_rfl) (by kernel_rfl) h with ⟨hc, hx⟩ | ⟨a, len, cap, m, n, V0, V1, V2, D0, D1, D2, P0, P1, P2, sp, pl, hc, hl, hm, hlm, _, rfl, hx⟩
  · simp only [List.cons.injEq, and_true] at hc
    exact ⟨none, 0, 0, fun _ => false, fun _ => 0, fun _ => 0, hc, by omega, fun i hi => by omega⟩
  · simp only [List.cons.injEq, and_true] at hc
    have hcs : ∀ i, i < m → ∃ q : Bool × Int × Int, V0 i = .bool q.1 ∧ V1 i = .int .i64 q.2.1 ∧ V2 i = .int .u8 q.2.2 ∧ (-9223372036854775808 ≤ q.2.1 ∧ q.2.1 ≤ 9223372036854775807) ∧ 0 ≤ q.2.2 := fun i hi => by
      obtain ⟨h0, h1, h2, h3, h4, h5⟩ := hx i hi
      obtain ⟨c, e0, _⟩ := DataW.trod_bool Try.underlying4 h3
      obtain ⟨x, e1, _, w1⟩ := DataW.trod_int Try.underlying3 h4
      obtain ⟨s, e2, _, w2⟩ := DataW.trod_int Try.underlying30 h5
      simp only [List.cons.injEq, and_true] at e0 e1 e2
      exact ⟨(c, x, s), e0, e1, e2, lit64 w1, (litu8 w2).1⟩
    obtain ⟨q, hq⟩ := choose_lt hcs
    refine ⟨some a, len, cap, fun i => (q i).1, fun i => (q i).2.1, fun i => (q i).2.2, hc, by unfold maxLen at hm; omega, fun i hi => ?_⟩
    obtain ⟨h0, h1, h2, _⟩ := hx i (by omega)
    obtain ⟨e0, e1, e2, hr⟩ := hq i (by omega)
    rw [e0] at h0
    rw [e1] at h1
    rw [e2] at h2
    have hz := (hx 0 (by omega)).1
    obtain ⟨b, off, spot⟩ := a
    have hsp : spot = none := by simpa [Addr.add] using World.cell?_spot hz
    subst hsp
    rw [add_plain] at h0 h1 h2
    exact ⟨⟨b, off, rfl, h0, h1, h2⟩, hr⟩
theorem cuts_open {H : Type} {enc : TypeId × Value → H} {W : World} {base : Nat} {v : Value} {d : DataW H} {p : List MemPlace} (hv : Value.okWide Try.prog W .any base 38 v)
    (h : DataW.Trod enc Try.prog W 0 (fun _ => true) true 38 v d p) :
    ∃ ao len cap C X T lim, v = .agg #[.slice ao len cap, .int .i64 lim] ∧ len ≤ 9223372036854775807 ∧ OpsIn W ao len C X T := by
  obtain ⟨cs, rfl, hsz⟩ := okWide_struct Try.underlying38 hv
  obtain ⟨c0, c1, rfl⟩ := array2 (hsz.trans (by kernel_rfl))
  obtain ⟨fuel, hf⟩ := h
  obtain ⟨xs, n, _, _, _, hxl, hx⟩ := DataW.trod_struct Try.underlying38 hf
  match xs, hxl with
  | [y0, y1], _ =>
    have e1 : Try.prog.cellsOf 3 = 1 := by kernel_rfl
    have e2 : Try.prog.cellsOf 22 = 1 := by kernel_rfl
    have g0 := hx 0 _ rfl
    have g1 := hx 1 _ rfl
    simp [Value.cells, e1, e2] at g0 g1
    obtain ⟨ao, len, cap, C, X, T, k0, hl, ho⟩ := ops_read g0
    obtain ⟨x, k1, _, _⟩ := DataW.trod_int Try.underlying3 g1
    simp only [List.cons.injEq, and_true] at k1
    exact ⟨ao, len, cap, C, X, T, x, by rw [k0, k1], hl, ho⟩
theorem two_open {H : Type} {enc : TypeId × Value → H} {W : World} {base : Nat} {v : Value} {d : DataW H} {p : List MemPlace} (hv : Value.okWide Try.prog W .any base 48 v)
    (h : DataW.Trod enc Try.prog W 0 (fun _ => true) true 48 v d p) :
    ∃ (x y : Int), v = .agg #[.int .i64 x, .int .i64 y] := by
  obtain ⟨cs, rfl, hsz⟩ := okWide_struct Try.underlying48 hv
  obtain ⟨c0, c1, rfl⟩ := array2 (hsz.trans (by kernel_rfl))
  obtain ⟨fuel, hf⟩ := h
  obtain ⟨xs, n, _, _, _, hxl, hx⟩ := DataW.trod_struct Try.underlying48 hf
  match xs, hxl with
  | [y0, y1], _ =>
    have e1 : Try.prog.cellsOf 3 = 1 := by kernel_rfl
    have g0 := hx 0 _ rfl
    have g1 := hx 1 _ rfl
    simp [Value.cells, e1] at g0 g1
    obtain ⟨x, k0, _, _⟩ := DataW.trod_int Try.underlying3 g0
    obtain ⟨y, k1, _, _⟩ := DataW.trod_int Try.underlying3 g1
    simp only [List.cons.injEq, and_true] at k0 k1
    exact ⟨x, y, by rw [k0, k1]⟩
theorem strs_read {H : Type} {enc : TypeId × Value → H} {W : World} {fuel : Nat} {c : Value} {x : DataW H × List MemPlace} (h : DataW.trod enc Try.prog W 0 (fun _ => true) true fuel 23 [c] = some x) :
    ∃ ao len cap S, c = .slice ao len cap ∧ len ≤ 9223372036854775807 ∧ StrsIn W ao len S := by
  rcases open_slice1 Try.underlying23 (by kernel_rfl) h with ⟨hc, _⟩ | ⟨a, len, cap, m, n, V, D, Pl, hc, _, hl, hm, hmm, _, hx⟩
  · simp only [List.cons.injEq, and_true] at hc
    exact ⟨none, 0, 0, fun _ => ⟨#[]⟩, hc, by omega, fun i hi => by omega⟩
  · simp only [List.cons.injEq, and_true] at hc
    have hlm : len ≤ m := by rw [hmm]; simp; exact hl
    have hs : ∀ i, i < m → ∃ s : ByteArray, V i = .string s ∧ s.size ≤ maxLen := fun i hi => by
      obtain ⟨s, e0, _, e2⟩ := DataW.trod_string Try.underlying9 (hx i hi).2
      simp only [List.cons.injEq, and_true] at e0
      exact ⟨s, e0, e2⟩
    obtain ⟨S, hS⟩ := choose_lt hs
    refine ⟨some a, len, cap, S, hc, by unfold maxLen at hm; omega, fun i hi => ?_⟩
    have hz := (hx 0 (by omega)).1
    have hi2 := (hx i (by omega)).1
    obtain ⟨b, off, spot⟩ := a
    have hsp : spot = none := by simpa [Addr.add] using World.cell?_spot hz
    subst hsp
    rw [add_plain, (hS i (by omega)).1] at hi2
    exact ⟨b, off, rfl, hi2, maxl (hS i (by omega)).2⟩
theorem page_open {H : Type} {enc : TypeId × Value → H} {W : World} {base : Nat} {v : Value} {d : DataW H} {p : List MemPlace} (hv : Value.okWide Try.prog W .any base 25 v)
    (h : DataW.Trod enc Try.prog W 0 (fun _ => true) true 25 v d p) :
    ∃ (a0 a1 a2 a3 : Int) (h : ByteArray) (ao : Option Addr) (len cap : Nat) (S : Nat → ByteArray), v = .agg #[.int .i64 a0, .int .i64 a1, .int .i64 a2, .int .i64 a3, .string h, .slice ao len cap] ∧ len ≤ 9223372036854775807 ∧ StrsIn W ao len S := by
  obtain ⟨cs, rfl, hsz⟩ := okWide_struct Try.underlying25 hv
  obtain ⟨c0, c1, c2, c3, c4, c5, rfl⟩ := array6 (hsz.trans (by kernel_rfl))
  obtain ⟨fuel, hf⟩ := h
  obtain ⟨xs, n, _, _, _, hxl, hx⟩ := DataW.trod_struct Try.underlying25 hf
  match xs, hxl with
  | [y0, y1, y2, y3, y4, y5], _ =>
    have e1 : Try.prog.cellsOf 3 = 1 := by kernel_rfl
    have e2 : Try.prog.cellsOf 23 = 1 := by kernel_rfl
    have e3 : Try.prog.cellsOf 9 = 1 := by kernel_rfl
    have g0 := hx 0 _ rfl
    have g1 := hx 1 _ rfl
    have g2 := hx 2 _ rfl
    have g3 := hx 3 _ rfl
    have g4 := hx 4 _ rfl
    have g5 := hx 5 _ rfl
    simp [Value.cells, e1, e2, e3] at g0 g1 g2 g3 g4 g5
    obtain ⟨a0, k0, _, _⟩ := DataW.trod_int Try.underlying3 g0
    obtain ⟨a1, k1, _, _⟩ := DataW.trod_int Try.underlying3 g1
    obtain ⟨a2, k2, _, _⟩ := DataW.trod_int Try.underlying3 g2
    obtain ⟨a3, k3, _, _⟩ := DataW.trod_int Try.underlying3 g3
    obtain ⟨u, k4, _, _⟩ := DataW.trod_string Try.underlying9 g4
    obtain ⟨ao, len, cap, S, k5, hl, hs⟩ := strs_read g5
    simp only [List.cons.injEq, and_true] at k0 k1 k2 k3 k4
    exact ⟨a0, a1, a2, a3, u, ao, len, cap, S, by rw [k0, k1, k2, k3, k4, k5], hl, hs⟩
end Go.Proofs.Ytpmhcpphbilokaa
