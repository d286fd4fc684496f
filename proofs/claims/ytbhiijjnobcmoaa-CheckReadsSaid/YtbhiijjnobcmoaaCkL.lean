/- Checks: the reference reads a sector. -/
import Derived.Test.YtbhiijjnobcmoaaCkK
namespace Go.Proofs.Ytbhiijjnobcmoaa
open Go.RowKit
set_option linter.unusedSimpArgs false
set_option maxRecDepth 100000

theorem ofR_lt (l : List UInt8) : ofR l < 256 ^ l.length := by
  have h : ∀ r : List UInt8, ofR r.reverse < 256 ^ r.length := by
    intro r
    induction r with
    | nil => simp [ofR]
    | cons x r ih =>
      rw [List.reverse_cons, ofR_snoc, List.length_cons, Nat.pow_succ]
      have := x.toNat_lt
      omega
  have := h l.reverse
  simpa using this
theorem sub_mid (s : ByteArray) (a n : Nat) : s.extract a (a + n) = ⟨((s.data.toList.drop a).take n).toArray⟩ := by
  apply ByteArray.ext
  apply Array.ext'
  rw [ByteArray.data_extract, Array.toList_extract, List.extract_eq_take_drop]
  rw [Nat.add_sub_cancel_left]

set_option maxHeartbeats 1000000 in
theorem rof_c (s : ByteArray) (w : World) (hs : s.size ≤ 7) :
    Calls Try.prog 30 #[.string s] w fun e w' => e = .returned (.int .i64 (ofV s.data.toList : Nat)) ∧ w = w' := by
  go_enter Try.func30, Try.ntmps30
  go_wp2_with fail
  go_loop [3, 4] (fun x i => ∃ k : Nat, k ≤ s.size ∧ i = .int .i64 k ∧ x = .int .i64 (ofR (s.data.toList.take k) : Nat)) (fun _ i => s.size - (intOf i).toNat)
  case atStart => exact ⟨0, by omega, rfl, rfl⟩
  case round =>
    obtain ⟨k, hk, rfl, rfl⟩ := hrel
    have hx : ofR (s.data.toList.take k) < 256 ^ k := by
      have h := ofR_lt (s.data.toList.take k)
      rw [List.length_take] at h
      exact Nat.lt_of_lt_of_le h (Nat.pow_le_pow_right (by omega) (Nat.min_le_left _ _))
    have h7 : (256 : Nat) ^ k ≤ 256 ^ 7 := Nat.pow_le_pow_right (by omega) (by omega)
    by_cases hlt : k < s.size
    · have h6 : (256 : Nat) ^ k ≤ 256 ^ 6 := Nat.pow_le_pow_right (by omega) (by omega)
      have HS : Hid (ofR (s.data.toList.take (k + 1)) = ofR (s.data.toList.take k) * 256 + s[k].toNat) := by
        unfold Hid; rw [get_snoc s k hlt, ofR_snoc]
      generalize ofR (s.data.toList.take k) = x at *
      have hb := s[k].toNat_lt
      have hx2 : x < 281474976710656 := by omega
      clear hx h7 h6
      go_wp2_with fail
      go_round
      case rel => exact ⟨k + 1, by omega, by go_num, by rw [HS.out]; exact congrArg (Value.int .i64) (by omega)⟩
      case measure => simp [intOf]; omega
    · have hk' : k = s.size := by omega
      have HS : Hid (ofV s.data.toList = ofR (s.data.toList.take k)) := by
        have e : s.data.toList.take k = s.data.toList := List.take_of_length_le (by rw [hk']; simp)
        rw [e] at hx ⊢
        unfold Hid ofV
        exact Nat.mod_eq_of_lt (by omega)
      generalize ofR (s.data.toList.take k) = x at *
      have hlt' : ¬ ((k : Int) < (s.size : Int)) := by omega
      clear hk' hx h7
      go_wp2_with fail
      go_ret
      exact ⟨by rw [HS.out]; rfl, rfl⟩
theorem rof_sub (t : ByteArray) (i k : Nat) (w : World) (h : i + k ≤ t.size) (hk : k ≤ 7) :
    Calls Try.prog 30 #[.string (t.extract i (i + k))] w fun e w' => e = .returned (.int .i64 (bn t.data.toList i k)) ∧ w = w' := by
  have h1 := rof_c (t.extract i (i + k)) w (by simp; omega)
  rw [sub_mid] at h1 ⊢
  exact h1
end Go.Proofs.Ytbhiijjnobcmoaa
