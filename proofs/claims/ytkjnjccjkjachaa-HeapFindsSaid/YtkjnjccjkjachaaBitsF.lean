/- Numbers as bytes. -/
import Derived.Test.YtkjnjccjkjachaaBitsE
import Derived.Deep.OwnRows
namespace Go.Proofs.Ytkjnjccjkjachaa
open Go.RowKit
set_option linter.unusedSimpArgs false
set_option maxRecDepth 100000

theorem Try.info_u8' : (Try.prog.info? 5).map (fun i => (i.zero, i.size, i.bytes)) = some (some (.int .u8 0), 1, 1) := Try.info_u8

/-- The j-th of k bytes of a number, the highest one first. -/
def bigD (n k j : Nat) : UInt8 := UInt8.ofNat (n / 256 ^ (k - 1 - j))
def bigL (n k : Nat) : List UInt8 := (List.range k).map (bigD n k)

def bigbad (n k : Int) : Bool := decide (k < 1) || decide (8 < k) || decide (n < 0)

theorem bigD_nat (n k j : Nat) : ((bigD n k j).toNat : Int) = ((n / 256 ^ (k - 1 - j)) % 256 : Nat) := by
  unfold bigD
  simp

theorem pow_cast (n m : Nat) : ((n / 256 ^ m % 256 : Nat) : Int) = (n : Int) / 2 ^ (8 * m) % 256 := by
  have h : (256 : Int) ^ m = 2 ^ (8 * m) := by rw [Int.pow_mul]; rfl
  rw [← h]
  simp

theorem big_no (n k : Int) (w : World) (h : bigbad n k = true) (hk : -9223372036854775808 ≤ k) (hk' : k ≤ 9223372036854775807) :
    Calls Try.prog 24 #[.int .i64 n, .int .i64 k] w fun e w' => e = .returned (.string ⟨#[]⟩) ∧ w = w' := by
  by_cases h1 : k < 1
  · go_enter Try.func24, Try.ntmps24
    go_wp2_with fail
    go_ret
    exact ⟨rfl, rfl⟩
  · by_cases h2 : 8 < k
    · go_enter Try.func24, Try.ntmps24
      go_wp2_with fail
      go_ret
      exact ⟨rfl, rfl⟩
    · have h3 : n < 0 := by simp [bigbad] at h; omega
      go_enter Try.func24, Try.ntmps24
      go_wp2_with fail
      go_ret
      exact ⟨rfl, rfl⟩

set_option maxHeartbeats 1000000 in
theorem big_yes (n k : Nat) (w : World) (hn : n ≤ 9223372036854775807) (h1 : 1 ≤ k) (h8 : k ≤ 8) :
    Calls Try.prog 24 #[.int .i64 n, .int .i64 k] w fun e w' => e = .returned (.string ⟨(bigL n k).toArray⟩) ∧ Below w.heap.size w w' := by
  have hmk := run_make_row' (P := Try.prog) 46 5 (.int .u8 0) 1 Try.underlying46 Try.info_u8 rfl .i64 .i64 k (by omega) (by omega)
  have g1 : ¬ ((k : Int) < 1) := by omega
  have g2 : ¬ ((8 : Int) < k) := by omega
  have g3 : ¬ ((n : Int) < 0) := by omega
  go_enter Try.func24, Try.ntmps24
  go_wp2_with fail
  clear hmk
  go_loopw [6, 21] (fun x i wr => ∃ j : Nat, j ≤ k ∧ i = .int .i64 j ∧ Hid (Fill w k (bigD n k) (fun q => q < j) wr)) (fun _ i _ => k - (intOf i).toNat)
  case atStart => exact ⟨0, by omega, rfl, Fill.start w k _ _ _ (by intro j _ h; omega)⟩
  case round =>
    obtain ⟨j, hj, rfl, HF⟩ := hrel
    by_cases hlt : j < k
    · obtain ⟨v, hv⟩ := HF.out.ok j hlt
      have hfr := HF.out.fr j hlt
      go_wp2_with fail
      go_roundw
      case rel => exact ⟨j + 1, by omega, by go_num, HF.out.set hlt (by first | rw [bigD_nat, pow_cast] | (trace_state; fail)) (by intro q hq; omega)⟩
      case measure => simp [intOf]; omega
    · have hlt' : ¬ ((j : Int) < (k : Int)) := by omega
      have hjk : j = k := by omega
      have HR := Lib.hid (run_string_cells (P := Try.prog) wr 46 9 5 Try.underlying46 Try.underlying5 Try.underlying9 w.heap.size k k (bigL n k) (by simp [bigL]) (by
        intro q hq
        have hq' : q < k := by simpa [bigL] using hq
        rw [HF.out.done q hq' (by omega)]
        simp [bigL]))
      clear hjk
      go_wp2_with fail
      rw [HR.out]
      go_wp2_with fail
      go_ret
      exact ⟨rfl, HF.out.bel⟩

end Go.Proofs.Ytkjnjccjkjachaa
