/- How a page is read from its data, with what the reach says of it. -/
import Derived.Test.YtkjnjccjkjachaaHpN
import Derived.Test.YtkjnjccjkjachaaPageRow
import Derived.Test.YtkjnjccjkjachaaTupRow
import Derived.SizedLaws
import Derived.Deep.Slices
namespace Go.Proofs.Ytkjnjccjkjachaa
open Go.ChangeShapes Go.WideShapes Go.ChangeAt Go.RowKit Go.Deep
set_option linter.unusedVariables false
set_option maxRecDepth 100000

theorem liti64 {n : Int} (h : (Lit.int .i64 n).wf = true) : n ≤ 9223372036854775807 := by
  simp [Lit.wf] at h
  have e2 : IntKind.i64.max = 9223372036854775807 := rfl
  omega
theorem mem_all {H : Type} {P : Program} {e : TypeId} : ∀ {l : List (DataW H)} {d : DataW H}, d ∈ l → ∀ n ∈ d.weights P e, n ∈ DataW.weightsAll P e l
  | [], d, h, _, _ => by simp at h
  | a :: l, d, h, n, hn => by
    simp only [DataW.weightsAll, List.mem_append]
    rcases List.mem_cons.1 h with rfl | h
    · exact .inl hn
    · exact .inr (mem_all h n hn)
theorem bulk_pos {H : Type} (d : DataW H) : 1 ≤ Rows.uptoBulk d := by
  cases d with
  | lit l => cases l <;> simp [Rows.uptoBulk]
  | _ => simp [Rows.uptoBulk]
theorem bulk_len {H : Type} : ∀ l : List (DataW H), l.length ≤ Rows.uptoBulkAll l
  | [] => Nat.le_refl _
  | d :: l => by
    have h1 := bulk_pos d
    have h2 := bulk_len l
    simp only [Rows.uptoBulkAll, List.length_cons]
    omega
theorem bulk_bound {H : Type} {l : List (DataW H)} (hk : Rows.uptoSmall H l = true) : Rows.uptoBulkAll l ≤ 1048576 := of_decide_eq_true hk
theorem strs_read2 {H : Type} {enc : TypeId × Value → H} {W : World} {fuel : Nat} {c : Value} {x : DataW H × List MemPlace} (h : DataW.trod enc Try.prog W 0 (fun _ => true) true fuel 22 [c] = some x) :
    ∃ ao len cap S, c = .slice ao len cap ∧ StrsIn W ao len S ∧ len ≤ Rows.uptoBulk x.1 ∧ ((∀ n ∈ x.1.weights Try.prog 22, n ≤ reachBytes) → len ≤ 8796093022000 ∧ ∀ i, i < len → (S i).size ≤ 140737488355328) := by
  rcases open_slice1 Try.underlying22 (by kernel_rfl) h with ⟨hc, _⟩ | ⟨a, len, cap, m, n, V, D, Pl, hc, _, hl, hm, hmm, hxe, hx⟩
  · simp only [List.cons.injEq, and_true] at hc
    exact ⟨none, 0, 0, fun _ => ⟨#[]⟩, hc, fun i hi => by omega, Nat.zero_le _, fun _ => ⟨by omega, fun i hi => by omega⟩⟩
  · simp only [List.cons.injEq, and_true] at hc
    have hlm : len ≤ m := by rw [hmm]; simp; exact hl
    have hs : ∀ i, i < m → ∃ s : ByteArray, V i = .string s ∧ s.size ≤ maxLen ∧ D i = .lit (.string s.data.toList) := fun i hi => by
      obtain ⟨s, e0, e1, e2⟩ := DataW.trod_string Try.underlying9 (hx i hi).2
      simp only [List.cons.injEq, and_true] at e0
      exact ⟨s, e0, e2, congrArg Prod.fst e1⟩
    obtain ⟨S, hS⟩ := choose_lt hs
    have hbl : len ≤ Rows.uptoBulk x.1 := by
      rw [hxe]
      have h1 := bulk_len ((List.range len).map D)
      simp only [List.length_map, List.length_range] at h1
      simp only [Rows.uptoBulk]
      omega
    refine ⟨some a, len, cap, S, hc, fun i hi => ?_, hbl, fun hw => ?_⟩
    · have hz := (hx 0 (by omega)).1
      have hi2 := (hx i (by omega)).1
      obtain ⟨b, off, spot⟩ := a
      have hsp : spot = none := by simpa [Addr.add] using World.cell?_spot hz
      subst hsp
      rw [add_plain, (hS i (by omega)).1] at hi2
      exact ⟨b, off, rfl, hi2, maxl (hS i (by omega)).2.1⟩
    · rw [hxe] at hw
      have hu := Try.underlying22
      have hb : Try.prog.bytesOf 9 = 16 := by kernel_rfl
      have h1 := hw (((List.range len).map D).length + ((List.range (m - len)).map fun j => D (len + j)).length |> (· * 16)) (by simp only [DataW.weights, hu, hb]; exact List.mem_cons_self ..)
      have hr : reachBytes ≤ 140737488351232 := by decide
      simp only [List.length_map, List.length_range] at h1
      refine ⟨by omega, fun i hi => ?_⟩
      have h2 := hw ((S i).data.toList.length) (by
        simp only [DataW.weights, hu]
        refine List.mem_cons_of_mem _ (List.mem_append_left _ (mem_all (d := D i) (List.mem_map_of_mem (List.mem_range.2 hi)) _ ?_))
        rw [(hS i (by omega)).2.2]
        simp [DataW.weights])
      rw [Array.length_toList] at h2
      exact Nat.le_trans h2 (Nat.le_trans hr (by decide))
theorem page_open2 {H : Type} {enc : TypeId × Value → H} {W : World} {base : Nat} {v : Value} {d : DataW H} {p : List MemPlace} (hv : Value.okWide Try.prog W .any base 24 v)
    (h : DataW.Trod enc Try.prog W 0 (fun _ => true) true 24 v d p) :
    ∃ (a0 a1 a2 a3 : Int) (h : ByteArray) (ao : Option Addr) (len cap : Nat) (S : Nat → ByteArray), v = .agg #[.int .i64 a0, .int .i64 a1, .int .i64 a2, .int .i64 a3, .string h, .slice ao len cap] ∧ a0 ≤ 9223372036854775807 ∧ StrsIn W ao len S ∧ len ≤ Rows.uptoBulk d ∧ ((∀ n ∈ d.weights Try.prog 24, n ≤ reachBytes) → len ≤ 8796093022000 ∧ Small h S len) := by
  obtain ⟨cs, rfl, hsz⟩ := okWide_struct Try.underlying24 hv
  obtain ⟨c0, c1, c2, c3, c4, c5, rfl⟩ := array6 (hsz.trans (by kernel_rfl))
  obtain ⟨fuel, hf⟩ := h
  obtain ⟨xs, n, _, hde, _, hxl, hx⟩ := DataW.trod_struct Try.underlying24 hf
  match xs, hxl with
  | [y0, y1, y2, y3, y4, y5], _ =>
    have e1 : Try.prog.cellsOf 3 = 1 := by kernel_rfl
    have e2 : Try.prog.cellsOf 22 = 1 := by kernel_rfl
    have e3 : Try.prog.cellsOf 9 = 1 := by kernel_rfl
    have g0 := hx 0 _ rfl
    have g1 := hx 1 _ rfl
    have g2 := hx 2 _ rfl
    have g3 := hx 3 _ rfl
    have g4 := hx 4 _ rfl
    have g5 := hx 5 _ rfl
    simp [Value.cells, e1, e2, e3] at g0 g1 g2 g3 g4 g5
    obtain ⟨a0, k0, _, w0⟩ := DataW.trod_int Try.underlying3 g0
    obtain ⟨a1, k1, _, _⟩ := DataW.trod_int Try.underlying3 g1
    obtain ⟨a2, k2, _, _⟩ := DataW.trod_int Try.underlying3 g2
    obtain ⟨a3, k3, _, _⟩ := DataW.trod_int Try.underlying3 g3
    obtain ⟨u, k4, y4e, _⟩ := DataW.trod_string Try.underlying9 g4
    obtain ⟨ao, len, cap, S, k5, hs, hbl, hwS⟩ := strs_read2 g5
    simp only [List.cons.injEq, and_true] at k0 k1 k2 k3 k4
    have hd : d = .agg [y0.1, y1.1, y2.1, y3.1, y4.1, y5.1] := congrArg Prod.fst hde
    subst hd
    have hu := Try.underlying24
    refine ⟨a0, a1, a2, a3, u, ao, len, cap, S, by rw [k0, k1, k2, k3, k4, k5], liti64 w0, hs, ?_, fun hw => ?_⟩
    · simp only [Rows.uptoBulk, Rows.uptoBulkAll]
      omega
    have hmem : ∀ (j : Nat) t (dj : DataW H), ([3, 3, 3, 3, 9, 22] : List TypeId)[j]? = some t → [y0.1, y1.1, y2.1, y3.1, y4.1, y5.1][j]? = some dj → ∀ n ∈ dj.weights Try.prog t, n ≤ reachBytes := fun j t dj h1 h2 n hn => by
      refine hw n ?_
      simp only [DataW.weights, hu]
      exact DataW.weights_mem_each h1 h2 n hn
    obtain ⟨hl, hi⟩ := hwS (hmem 5 _ _ rfl rfl)
    have hh := hmem 4 _ _ rfl rfl u.data.toList.length (by rw [y4e]; simp [DataW.weights])
    rw [Array.length_toList] at hh
    exact ⟨hl, Nat.le_trans hh (by decide), hi⟩
end Go.Proofs.Ytkjnjccjkjachaa
