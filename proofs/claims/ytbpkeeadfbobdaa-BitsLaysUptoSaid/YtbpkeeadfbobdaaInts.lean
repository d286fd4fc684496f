/- How a list of numbers is read from its data. -/
import Derived.Test.YtbpkeeadfbobdaaBitsU
namespace Go.Proofs.Ytbpkeeadfbobdaa
open Go.ChangeShapes Go.WideShapes Go.ChangeAt Go.RowKit Go.Deep

theorem ints_read {H : Type} {enc : TypeId × Value → H} {W : World} {fuel : Nat} {c : Value} {x : DataW H × List MemPlace} (h : DataW.trod enc Try.prog W 0 (fun _ => true) true fuel 30 [c] = some x) :
    ∃ ao ns cap, c = .slice ao ns.length cap ∧ IntsIn W ao ns ∧ ns.length ≤ Rows.uptoBulk x.1 ∧ ∀ z ∈ ns, z ≤ 9223372036854775807 := by
  rcases open_slice1 Try.underlying30 (by kernel_rfl) h with ⟨hc, hx⟩ | ⟨a, len, cap, m, n, V, D, Pl, hc, _, hl, hm, hmm, rfl, hx⟩
  · simp only [List.cons.injEq, and_true] at hc
    exact ⟨none, [], 0, hc, fun j z hj => by simp at hj, by simp, fun z hz => by simp at hz⟩
  · simp only [List.cons.injEq, and_true] at hc
    have hlm : len ≤ m := by rw [hmm]; simp; exact hl
    have hv : ∀ i, i < len → V i = .int .i64 (intOf (V i)) ∧ intOf (V i) ≤ 9223372036854775807 := fun i hi => by
      obtain ⟨k1, e1, _, hw⟩ := DataW.trod_int Try.underlying3 (hx i (by omega)).2
      simp only [List.cons.injEq, and_true] at e1
      rw [e1]
      exact ⟨rfl, (lit64 hw).2⟩
    refine ⟨some a, (List.range len).map fun i => intOf (V i), cap, by rw [List.length_map, List.length_range]; exact hc, ?_, ?_, ?_⟩
    · intro j z hj
      rw [List.getElem?_map] at hj
      have hjl : j < len := by
        rcases Nat.lt_or_ge j len with h1 | h1
        · exact h1
        · rw [List.getElem?_eq_none (by rw [List.length_range]; exact h1)] at hj; cases hj
      rw [List.getElem?_range hjl] at hj
      injection hj with hj
      have hz := (hx 0 (by omega)).1
      have hcj := (hx j (by omega)).1
      obtain ⟨b, off, spot⟩ := a
      have hsp : spot = none := by simpa [Addr.add] using World.cell?_spot hz
      subst hsp
      rw [add_plain, (hv j hjl).1] at hcj
      exact ⟨b, off, rfl, by rw [← hj]; exact hcj⟩
    · rw [List.length_map, List.length_range]
      show len ≤ Rows.uptoBulk (.slice _ _)
      simp only [Rows.uptoBulk]
      have := bulk_range D (fun _ => 1) (fun k => k) rfl (fun _ => rfl) len (fun i _ => by
        cases D i with
        | lit l => cases l <;> simp [Rows.uptoBulk]
        | nil => simp [Rows.uptoBulk]
        | ptr d => simp [Rows.uptoBulk]
        | slice elems spare => simp [Rows.uptoBulk]
        | agg parts => simp [Rows.uptoBulk]
        | iface t d => simp [Rows.uptoBulk]
        | map entries => simp [Rows.uptoBulk]
        | held h => simp [Rows.uptoBulk])
      omega
    · intro z hz
      obtain ⟨i, hi, rfl⟩ := List.mem_map.1 hz
      exact (hv i (List.mem_range.1 hi)).2
end Go.Proofs.Ytbpkeeadfbobdaa
