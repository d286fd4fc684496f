/- The walks of BitsSums, BitsBig, BitsNil. -/
import Derived.Test.YtkjnjccjkjachaaBitsK
namespace Go.Proofs.Ytkjnjccjkjachaa
open Go.RowKit
set_option linter.unusedSimpArgs false
set_option maxRecDepth 100000

theorem big_c (n k : Int) (w : World) (hn : -9223372036854775808 ≤ n ∧ n ≤ 9223372036854775807) (hk : -9223372036854775808 ≤ k ∧ k ≤ 9223372036854775807) :
    Calls Try.prog 24 #[.int .i64 n, .int .i64 k] w fun e w' => e = .returned (.string (if bigbad n k then ⟨#[]⟩ else ⟨(bigL n.toNat k.toNat).toArray⟩)) ∧ Below w.heap.size w w' := by
  by_cases h : bigbad n k = true
  · rw [if_pos h]
    refine (big_no n k w h hk.1 hk.2).mono ?_
    rintro e w' ⟨rfl, rfl⟩
    exact ⟨rfl, Below.refl _ _⟩
  · rw [if_neg h]
    simp [bigbad] at h
    have h1 := big_yes n.toNat k.toNat w (by omega) (by omega) (by omega)
    rw [show ((n.toNat : Nat) : Int) = n from by omega, show ((k.toNat : Nat) : Int) = k from by omega] at h1
    exact h1
theorem lit64 {n : Int} (h : (Lit.int .i64 n).wf = true) : -9223372036854775808 ≤ n ∧ n ≤ 9223372036854775807 := by
  simp [Lit.wf] at h
  have e1 : IntKind.i64.min = -9223372036854775808 := rfl
  have e2 : IntKind.i64.max = 9223372036854775807 := rfl
  omega
theorem litU8 {n : Int} (h : (Lit.int .u8 n).wf = true) : 0 ≤ n ∧ n ≤ 255 := by
  simp [Lit.wf] at h
  have e1 : IntKind.u8.min = 0 := rfl
  have e2 : IntKind.u8.max = 255 := rfl
  omega
theorem maxl {n : Nat} (h : n ≤ maxLen) : n ≤ 9223372036854775807 := by unfold maxLen at h; omega
end Go.Proofs.Ytkjnjccjkjachaa
