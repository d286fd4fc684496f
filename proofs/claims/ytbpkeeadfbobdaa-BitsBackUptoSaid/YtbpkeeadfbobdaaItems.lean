/- How a list of items of the laws of layer 1 is read from its data. -/
import Derived.Test.YtbpkeeadfbobdaaBitsQ
import Derived.Test.YtbpkeeadfbobdaaBitsL
import Derived.Test.YtbpkeeadfbobdaaTrips
namespace Go.Proofs.Ytbpkeeadfbobdaa
open Go.ChangeShapes Go.WideShapes Go.ChangeAt Go.RowKit Go.Deep

/-- How much the texts of the first k items are, and one for each item. -/
def itot (S : Nat → ByteArray) : Nat → Nat
  | 0 => 0
  | k + 1 => itot S k + ((S k).size + 1)

theorem items_read {H : Type} {enc : TypeId × Value → H} {W : World} {fuel : Nat} {c : Value} {x : DataW H × List MemPlace} (h : DataW.trod enc Try.prog W 0 (fun _ => true) true fuel 29 [c] = some x) :
    ∃ ao len cap K N S, c = .slice ao len cap ∧ len ≤ 9223372036854775807 ∧ ItemsIn W ao len K N S ∧ itot S len ≤ Rows.uptoBulk x.1 ∧
      (∀ i, i < len → (-9223372036854775808 ≤ N i ∧ N i ≤ 9223372036854775807) ∧ (S i).size ≤ 9223372036854775807) ∧ (len = 0 ∨ ∃ el sp, x.1 = .slice el sp ∧ el.length = len) := by
  rcases open_slice_trips Try.underlying29 Try.underlying34 (by kernel_rfl) rfl rfl rfl (by kernel_rfl) (by kernel_rfl) (by kernel_rfl) h with ⟨hc, hx⟩ | ⟨a, len, cap, m, n, V0, V1, V2, D0, D1, D2, P0, P1, P2, sp, pl, hc, hl, hm, hlm, _, rfl, hx⟩
  · simp only [List.cons.injEq, and_true] at hc
    exact ⟨none, 0, 0, fun _ => 0, fun _ => 0, fun _ => ⟨#[]⟩, hc, by omega, fun i hi => by omega, by simp [itot], fun i hi => by omega, .inl rfl⟩
  · simp only [List.cons.injEq, and_true] at hc
    have hs : ∀ i, i < m → ∃ s : ByteArray, V2 i = .string s ∧ D2 i = .lit (.string s.data.toList) ∧ s.size ≤ maxLen := fun i hi => by
      obtain ⟨s, e0, e1, e2⟩ := DataW.trod_string Try.underlying9 (hx i hi).2.2.2.2.2
      simp only [List.cons.injEq, and_true] at e0
      injection e1 with e1 _
      exact ⟨s, e0, e1, e2⟩
    obtain ⟨S, hS⟩ := choose_lt hs
    refine ⟨some a, len, cap, fun i => intOf (V0 i), fun i => intOf (V1 i), S, hc, by unfold maxLen at hm; omega, fun i hi => ?_, ?_, fun i hi => ?_, .inr ⟨_, _, rfl, by simp⟩⟩
    · obtain ⟨h0, h1, h2, h3, h4, h5⟩ := hx i (by omega)
      obtain ⟨k0, e0, _, _⟩ := DataW.trod_int Try.underlying5 h3
      obtain ⟨k1, e1, _, _⟩ := DataW.trod_int Try.underlying3 h4
      simp only [List.cons.injEq, and_true] at e0 e1
      rw [e0] at h0
      rw [e1] at h1
      rw [(hS i (by omega)).1] at h2
      have hz := (hx 0 (by omega)).1
      obtain ⟨b, off, spot⟩ := a
      have hsp : spot = none := by simpa [Addr.add] using World.cell?_spot hz
      subst hsp
      rw [add_plain] at h0 h1 h2
      refine ⟨b, off, rfl, ?_, ?_, ?_⟩
      · rw [h0]; show _ = some (Value.int .u8 (intOf (V0 i))); rw [e0]; rfl
      · rw [Nat.add_assoc, h1]; show _ = some (Value.int .i64 (intOf (V1 i))); rw [e1]; rfl
      · rw [Nat.add_assoc, h2]
    · show itot S len ≤ Rows.uptoBulk (.slice _ sp)
      simp only [Rows.uptoBulk]
      have := bulk_range (fun i => DataW.agg [D0 i, D1 i, D2 i]) (fun i => (S i).size + 1) (itot S) rfl (fun _ => rfl) len (fun i hi => by
        have e := (hS i (by omega)).2.1
        have e2 : (S i).data.toList.length = (S i).size := Array.length_toList
        simp only [Rows.uptoBulk, Rows.uptoBulkAll, e]
        omega)
      omega
    · obtain ⟨k1, e1, _, hw⟩ := DataW.trod_int Try.underlying3 (hx i (by omega)).2.2.2.2.1
      simp only [List.cons.injEq, and_true] at e1
      show (_ ≤ intOf (V1 i) ∧ intOf (V1 i) ≤ _) ∧ _
      rw [e1]
      exact ⟨lit64 hw, maxl (hS i (by omega)).2.2⟩
end Go.Proofs.Ytbpkeeadfbobdaa
