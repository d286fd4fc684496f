/- The reader's texts; awake. -/
import Derived.Test.YtpmhcpphbilokaaBitsI
namespace Go.Proofs.Ytpmhcpphbilokaa
open Go.RowKit
set_option linter.unusedSimpArgs false
set_option maxRecDepth 100000

/-- What a text's taking does. -/
def textOut (s : ByteArray) (most : Int) : ByteArray × ByteArray × Int :=
  let o := numOut s most
  if o.2.2 ≠ 0 then (⟨#[]⟩, o.2.1, o.2.2)
  else if (o.2.1.size : Int) < o.1 then (⟨#[]⟩, ⟨#[]⟩, 10)
  else (⟨(o.2.1.data.toList.take o.1.toNat).toArray⟩, ⟨(o.2.1.data.toList.drop o.1.toNat).toArray⟩, 0)

theorem numOut_cases (s : ByteArray) (most : Int) : (∃ c : Nat, numOut s most = (0, ⟨#[]⟩, (c : Int)) ∧ (c = 10 ∨ c = 11)) ∨ ∃ (n : Nat) (r : ByteArray), numOut s most = ((n : Int), r, 0) := by
  have h : ∀ f k n l, (∃ c, rd most f k n l = .inl c ∧ (c = 10 ∨ c = 11)) ∨ ∃ x, rd most f k n l = .inr x := by
    intro f
    induction f with
    | zero => intro k n l; exact .inl ⟨11, by rw [rd], by omega⟩
    | succ f ih =>
      intro k n l
      cases l with
      | nil => exact .inl ⟨10, by rw [rd], by omega⟩
      | cons b l =>
        rw [rd]
        split
        · exact .inl ⟨11, rfl, by omega⟩
        · split
          · exact ih _ _ _
          · split
            · exact .inl ⟨11, rfl, by omega⟩
            · exact .inr ⟨_, rfl⟩
  unfold numOut
  rcases h 9 0 0 s.data.toList with ⟨c, hc, hc'⟩ | ⟨⟨n, k⟩, hx⟩
  · rw [hc]; exact .inl ⟨c, rfl, hc'⟩
  · rw [hx]; exact .inr ⟨n, _, rfl⟩

end Go.Proofs.Ytpmhcpphbilokaa
