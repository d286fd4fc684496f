/- A slice of structs of three one-cell fields, opened at every index. -/
import Derived.Test.YtpmhcpphbilokaaRow
import Derived.Test.YtpmhcpphbilokaaRows
import Derived.Deep.SlicePairs
import Derived.SizedLaws
import Derived.Deep.CondSized
namespace Go.Proofs.Ytpmhcpphbilokaa
open Go.ChangeShapes Go.WideShapes Go.ChangeAt Go.RowKit Go.Deep

theorem open_slice_trips {H : Type} {enc : TypeId × Value → H} {P : Program} {w : World} {base : Nat} {spare : Nat → Bool} {held : Bool} {t e : TypeId} {f0 f1 f2 : Field} {fuel : Nat} {cs : List Value} {x : DataW H × List MemPlace} (ht : P.underlying t = some (.slice e)) (he : P.underlying e = some (.struct #[f0, f1, f2]))
    (ce : P.cellsOf e = 3) (o0 : f0.offset = 0) (o1 : f1.offset = 1) (o2 : f2.offset = 2) (c0 : P.cellsOf f0.type = 1) (c1 : P.cellsOf f1.type = 1) (c2 : P.cellsOf f2.type = 1)
    (h : DataW.trod enc P w base spare held fuel t cs = some x) :
    (cs = [.slice none 0 0] ∧ x = (.nil, [])) ∨
    ∃ (a : Addr) (len cap m n : Nat) (V0 V1 V2 : Nat → Value) (D0 D1 D2 : Nat → DataW H) (P0 P1 P2 : Nat → List MemPlace) (sp : List (DataW H)) (pl : List MemPlace), cs = [.slice (some a) len cap] ∧ len ≤ cap ∧ cap ≤ maxLen ∧ len ≤ m ∧ sp.length + len = m ∧
      x = (.slice ((List.range len).map fun i => .agg [D0 i, D1 i, D2 i]) sp, pl) ∧
      ∀ i, i < m → w.cell? (a.add (i * 3)) = some (V0 i) ∧ w.cell? (a.add (i * 3 + 1)) = some (V1 i) ∧ w.cell? (a.add (i * 3 + 2)) = some (V2 i) ∧
        DataW.trod enc P w base spare held n f0.type [V0 i] = some (D0 i, P0 i) ∧ DataW.trod enc P w base spare held n f1.type [V1 i] = some (D1 i, P1 i) ∧ DataW.trod enc P w base spare held n f2.type [V2 i] = some (D2 i, P2 i) := by
  rcases open_slice ht h with h0 | ⟨a, len, cap, m, n, D, Pl, rfl, _, hl, hm, hmm, rfl, hx⟩
  · exact Or.inl h0
  right
  have hlm : len ≤ m := by rw [hmm]; split <;> omega
  have each : ∀ i, i < m → ∃ q : (Value × Value × Value) × (DataW H × List MemPlace) × (DataW H × List MemPlace) × (DataW H × List MemPlace), w.cell? (a.add (i * 3)) = some q.1.1 ∧ w.cell? (a.add (i * 3 + 1)) = some q.1.2.1 ∧ w.cell? (a.add (i * 3 + 2)) = some q.1.2.2 ∧
      DataW.trod enc P w base spare held (n - 1) f0.type [q.1.1] = some q.2.1 ∧ DataW.trod enc P w base spare held (n - 1) f1.type [q.1.2.1] = some q.2.2.1 ∧ DataW.trod enc P w base spare held (n - 1) f2.type [q.1.2.2] = some q.2.2.2 ∧ D i = .agg [q.2.1.1, q.2.2.1.1, q.2.2.2.1] := by
    intro i hi
    obtain ⟨cs', h1, h2⟩ := hx i hi
    rw [ce] at h1
    obtain ⟨_, hlen, hcell⟩ := World.cells?_some h1
    obtain ⟨xs, k, hk, hxy, _, hxl, hf⟩ := DataW.trod_struct he h2
    have hk' : k = n - 1 := by omega
    subst hk'
    match xs, hxl, cs', hlen with
    | [y0, y1, y2], _, [v0, v1, v2], _ =>
      have g0 := hf 0 f0 rfl
      have g1 := hf 1 f1 rfl
      have g2 := hf 2 f2 rfl
      simp [o0, o1, o2, c0, c1, c2] at g0 g1 g2
      have e0 := hcell 0 (by omega)
      have e1 := hcell 1 (by omega)
      have e2 := hcell 2 (by omega)
      rw [add_add] at e0 e1 e2
      simp only [Prod.mk.injEq] at hxy
      exact ⟨((v0, v1, v2), y0, y1, y2), by simpa using e0, by simpa using e1, by simpa using e2, g0, g1, g2, by simpa using hxy.1⟩
  obtain ⟨q, hq⟩ := choose_lt each
  refine ⟨a, len, cap, m, n - 1, fun i => (q i).1.1, fun i => (q i).1.2.1, fun i => (q i).1.2.2, fun i => (q i).2.1.1, fun i => (q i).2.2.1.1, fun i => (q i).2.2.2.1, fun i => (q i).2.1.2, fun i => (q i).2.2.1.2, fun i => (q i).2.2.2.2, (List.range (m - len)).map (fun j => D (len + j)), MemPlace.row a (m * P.cellsOf e) ++ (List.range m).flatMap Pl, rfl, hl, hm, hlm, (by rw [List.length_map, List.length_range]; omega), ?_,
    fun i hi => ⟨(hq i hi).1, (hq i hi).2.1, (hq i hi).2.2.1, (hq i hi).2.2.2.1, (hq i hi).2.2.2.2.1, (hq i hi).2.2.2.2.2.1⟩⟩
  rw [List.map_congr_left (fun i hi => (hq i (by have := List.mem_range.1 hi; omega)).2.2.2.2.2.2)]

theorem bulk_append {H : Type} (l r : List (DataW H)) : Rows.uptoBulkAll (l ++ r) = Rows.uptoBulkAll l + Rows.uptoBulkAll r := by
  induction l with
  | nil => simp [Rows.uptoBulkAll]
  | cons x l ih => simp only [List.cons_append, Rows.uptoBulkAll, ih]; omega
theorem bulk_bound {H : Type} {l : List (DataW H)} (hk : Rows.uptoSmall H l = true) : Rows.uptoBulkAll l ≤ 1048576 := of_decide_eq_true hk
theorem bulk_range {H : Type} (D : Nat → DataW H) (g : Nat → Nat) (G : Nat → Nat) (h0 : G 0 = 0) (hs : ∀ k, G (k + 1) = G k + g k) : ∀ len, (∀ i, i < len → g i ≤ Rows.uptoBulk (D i)) → G len ≤ Rows.uptoBulkAll ((List.range len).map D) := by
  intro len
  induction len with
  | zero => intro _; simp [h0]
  | succ k ih =>
    intro h
    rw [List.range_succ, List.map_append, bulk_append, hs]
    have h1 := ih (fun i hi => h i (by omega))
    have h2 := h k (by omega)
    simp only [List.map_cons, List.map_nil, Rows.uptoBulkAll]
    omega
end Go.Proofs.Ytpmhcpphbilokaa
