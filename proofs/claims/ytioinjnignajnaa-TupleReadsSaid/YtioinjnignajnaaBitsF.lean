/- Numbers as bytes. -/
import Derived.Test.YtioinjnignajnaaBitsE
import Derived.Deep.OwnRows
namespace Go.Proofs.Ytioinjnignajnaa
open Go.RowKit
set_option linter.unusedSimpArgs false

theorem Try.info_u8' : (Try.prog.info? 5).map (fun i => (i.zero, i.size, i.bytes)) = some (some (.int .u8 0), 1, 1) := Try.info_u8

/-- The j-th of k bytes of a number, the highest one first. -/
def bigD (n k j : Nat) : UInt8 := UInt8.ofNat (n / 256 ^ (k - 1 - j))
def bigL (n k : Nat) : List UInt8 := (List.range k).map (bigD n k)

def bigbad (n k : Int) : Bool := decide (k < 1) || decide (8 < k) || decide (n < 0)

theorem bigD_nat (n k j : Nat) : ((bigD n k j).toNat : Int) = ((n / 256 ^ (k - 1 - j)) % 256 : Nat) := by
  unfold bigD
  simp

theorem pow_cast (n m : Nat) : ((n / 256 ^ m % 256 : Nat) : Int) = (n : Int) / 2 ^ (8 * m) % 256 := by
  have h : (256 : Int) ^ m = 2 ^ (8 * m) := by rw [Int.pow_mul]; rfl
  rw [← h]
  simp

theorem big_no (n k : Int) (w : World) (h : bigbad n k = true) (hk : -9223372036854775808 ≤ k) (hk' : k ≤ 9223372036854775807) :
    Calls Try.prog 26 #[.int .i64 n, .int .i64 k] w fun e w' => e = .returned (.string ⟨#[]⟩) ∧ w = w' := by
  by_cases h1 : k < 1
  · go_enter Try.func26, Try.ntmps26
    go_wp2_with fail
    go_ret
    exact ⟨rfl, rfl⟩
  · by_cases h2 : 8 < k
    · go_enter Try.func26, Try.ntmps26
      go_wp2_with fail
      go_ret
      exact ⟨rfl, rfl⟩
    · have h3 : n < 0 := by simp [bigbad] at h; omega
      go_enter Try.func26, Try.ntmps26
      go_wp2_with fail
      go_ret
      exact ⟨rfl, rfl⟩

set_option maxHeartbeats 1000000 in
theorem big_yes (n k : Nat) (w : World) (hn : n ≤ 9223372036854775807) (h1 : 1 ≤ k) (h8 : k ≤ 8) :
    Calls Try.prog 26 #[.int .i64 n, .int .i64 k] w fun e w' => e = .returned (.string ⟨(bigL n k).toArray⟩) ∧ Below w.heap.size w w' := by
  have hmk := run_make_row' (P := Try.prog) 60 5 (.int .u8 0) 1 Try.underlying60 Try.info_u8 rfl .i64 .i64 k (by omega) (by omega)
  have g1 : ¬ ((k : Int) < 1) := by omega
  have g2 : ¬ ((8 : Int) < k) := by omega
  have g3 : ¬ ((n : Int) < 0) := by omega
  go_enter Try.func26, Try.ntmps26
  go_wp2_with fail
  clear hmk
  go_loopw [6, 21] (fun x i wr => ∃ j : Nat, j ≤ k ∧ i = .int .i64 j ∧ Hid (Fill w k (bigD n k) (fun q => q < j) wr)) (fun _ i _ => k - (intOf i).toNat)
  case atStart => exact ⟨0, by omega, rfl, Fill.start w k _ _ _ (by intro j _ h; omega)⟩
  case round =>
    obtain ⟨j, hj, rfl, HF⟩ := hrel
    by_cases hlt : j < k
    · obtain ⟨v, hv⟩ := HF.out.ok j hlt
      have hfr := HF.out.fr j hlt
      go_wp2_with fail
      go_roundw
      case rel => exact ⟨j + 1, by omega, by go_num, HF.out.set hlt (by first | rw [bigD_nat, pow_cast] | (trace_state; fail)) (by intro q hq; omega)⟩
      case measure => simp [intOf]; omega
    · have hlt' : ¬ ((j : Int) < (k : Int)) := by omega
      have hjk : j = k := by omega
      have HR := Lib.hid (run_string_cells (P := Try.prog) wr 60 9 5 Try.underlying60 Try.underlying5 Try.underlying9 w.heap.size k k (bigL n k) (by simp [bigL]) (by
        intro q hq
        have hq' : q < k := by simpa [bigL] using hq
        rw [HF.out.done q hq' (by omega)]
        simp [bigL]))
      clear hjk
      go_wp2_with fail
      rw [HR.out]
      go_wp2_with fail
      go_ret
      exact ⟨rfl, HF.out.bel⟩

theorem rbig_no (n k : Int) (w : World) (h : bigbad n k = true) (hk : -9223372036854775808 ≤ k) (hk' : k ≤ 9223372036854775807) :
    Calls Try.prog 29 #[.int .i64 n, .int .i64 k] w fun e w' => e = .returned (.string ⟨#[]⟩) ∧ w = w' := by
  by_cases h1 : k < 1
  · go_enter Try.func29, Try.ntmps29
    go_wp2_with fail
    go_ret
    exact ⟨rfl, rfl⟩
  · by_cases h2 : 8 < k
    · go_enter Try.func29, Try.ntmps29
      go_wp2_with fail
      go_ret
      exact ⟨rfl, rfl⟩
    · have h3 : n < 0 := by simp [bigbad] at h; omega
      go_enter Try.func29, Try.ntmps29
      go_wp2_with fail
      go_ret
      exact ⟨rfl, rfl⟩

set_option maxHeartbeats 1000000 in
theorem rbig_yes (n k : Nat) (w : World) (hn : n ≤ 9223372036854775807) (h1 : 1 ≤ k) (h8 : k ≤ 8) :
    Calls Try.prog 29 #[.int .i64 n, .int .i64 k] w fun e w' => e = .returned (.string ⟨(bigL n k).toArray⟩) ∧ Below w.heap.size w w' := by
  have hmk := run_make_row' (P := Try.prog) 60 5 (.int .u8 0) 1 Try.underlying60 Try.info_u8 rfl .i64 .i64 k (by omega) (by omega)
  have g1 : ¬ ((k : Int) < 1) := by omega
  have g2 : ¬ ((8 : Int) < k) := by omega
  have g3 : ¬ ((n : Int) < 0) := by omega
  go_enter Try.func29, Try.ntmps29
  go_wp2_with fail
  clear hmk
  go_loopw [0, 6] (fun x i wr => ∃ j : Nat, j ≤ k ∧ i = .int .i64 ((j : Int) - 1) ∧ x = .int .i64 (n / 256 ^ (k - j) : Nat) ∧ Hid (Fill w k (bigD n k) (fun q => j ≤ q) wr)) (fun _ i _ => (intOf i + 1).toNat)
  case atStart => exact ⟨k, by omega, by go_num, by simp, Fill.start w k _ _ _ (by intro j h h'; omega)⟩
  case round =>
    obtain ⟨j, hj, rfl, rfl, HF⟩ := hrel
    by_cases hlt : 0 < j
    · obtain ⟨i, rfl⟩ : ∃ i, j = i + 1 := ⟨j - 1, by omega⟩
      obtain ⟨v, hv⟩ := HF.out.ok i (by omega)
      have hfr := HF.out.fr i (by omega)
      have hm63 : n / 256 ^ (k - (i + 1)) ≤ n := Nat.div_le_self _ _
      have HM : Hid (n / 256 ^ (k - (i + 1)) / 256 = n / 256 ^ (k - i)) := by
        unfold Hid; rw [Nat.div_div_eq_div_mul, ← Nat.pow_succ]; congr 2; omega
      have HD : Hid (((bigD n k i).toNat : Int) = ((n / 256 ^ (k - (i + 1)) % 256 : Nat) : Int)) := by
        unfold Hid; rw [bigD_nat]; congr 4; omega
      generalize n / 256 ^ (k - (i + 1)) = m at *
      go_wp2_with fail
      go_roundw
      case rel => exact ⟨i, by omega, rfl, by rw [← HM.out]; rfl, HF.out.set (by omega) (by rw [HD.out]; rfl) (by intro q hq; omega)⟩
      case measure => simp [intOf]
    · have hj0 : j = 0 := by omega
      subst hj0
      have HR := Lib.hid (run_string_cells (P := Try.prog) wr 60 9 5 Try.underlying60 Try.underlying5 Try.underlying9 w.heap.size k k (bigL n k) (by simp [bigL]) (by
        intro q hq
        have hq' : q < k := by simpa [bigL] using hq
        rw [HF.out.done q hq' (by omega)]
        simp [bigL]))
      generalize n / 256 ^ (k - 0) = m at *
      go_wp2_with fail
      rw [HR.out]
      go_wp2_with fail
      go_ret
      exact ⟨rfl, HF.out.bel⟩
end Go.Proofs.Ytioinjnignajnaa
