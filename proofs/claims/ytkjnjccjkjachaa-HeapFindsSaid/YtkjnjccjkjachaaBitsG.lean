/- Bytes as a number. -/
import Derived.Test.YtkjnjccjkjachaaBitsF
namespace Go.Proofs.Ytkjnjccjkjachaa
open Go.RowKit
set_option linter.unusedSimpArgs false
set_option maxRecDepth 100000

theorem retU {a b : Int} (h : a = b) : Ending.returned (.int .u32 a) = .returned (.int .u32 b) := by rw [h]

theorem get_snoc (s : ByteArray) (k : Nat) (h : k < s.size) : s.data.toList.take (k + 1) = s.data.toList.take k ++ [s[k]] := by
  rw [List.take_succ_eq_append_getElem (by simpa using h)]; rfl


/-- The number of bytes, the highest one first. -/
def ofR (l : List UInt8) : Nat := l.foldl (fun n b => n * 256 + b.toNat) 0
def ofV (l : List UInt8) : Nat := ofR l % 9223372036854775808
theorem ofR_snoc (l : List UInt8) (b : UInt8) : ofR (l ++ [b]) = ofR l * 256 + b.toNat := by simp [ofR]

theorem or_eq (x b : Nat) (hb : b < 256) : bits BinOp.or IntKind.u64 (IntKind.u64.wrap ((x : Int) * 256)) (b : Int) = ((x * 256 + b) % 18446744073709551616 : Nat) := by
  have h1 : IntKind.u64.wrap ((x : Int) * 256) = (((x % 72057594037927936) * 256 : Nat) : Int) := by rw [IntKind.wrap_u64]; omega
  rw [h1, u64_or_nat _ _ (by omega) (by omega)]
  have h2 := Nat.shiftLeft_add_eq_or_of_lt (i := 8) (b := b) (by omega) (x % 72057594037927936)
  rw [Nat.shiftLeft_eq] at h2
  rw [show (2 : Nat) ^ 8 = 256 from rfl] at h2
  rw [← h2]
  congr 1
  omega
theorem andn_eq (x : Nat) (hx : x < 18446744073709551616) : bits BinOp.andNot IntKind.u64 (x : Int) 9223372036854775808 = (x % 9223372036854775808 : Nat) := by
  have h := u64_andNot_nat x 9223372036854775808 hx (by decide)
  rw [show (18446744073709551615 - 9223372036854775808 : Nat) = 2 ^ 63 - 1 from rfl, Nat.and_two_pow_sub_one_eq_mod] at h
  exact h
theorem wrap64_nat (x : Nat) (hx : x < 9223372036854775808) : wrap64 (x : Int) = x := by
  have h := IntWalk.wrap64_in (x : Int) (by omega)
  exact h

set_option maxHeartbeats 1000000 in
theorem of_c (s : ByteArray) (w : World) (hs : s.size ≤ 9223372036854775807) :
    Calls Try.prog 46 #[.string s] w fun e w' => e = .returned (.int .i64 (ofV s.data.toList : Nat)) ∧ w = w' := by
  go_enter Try.func46, Try.ntmps46
  go_wp2_with fail
  go_loop [3, 4, 7] (fun x _ i => ∃ k : Nat, k ≤ s.size ∧ i = .int .i64 k ∧ x = .int .u64 (ofR (s.data.toList.take k) % 18446744073709551616 : Nat)) (fun _ _ i => s.size - (intOf i).toNat)
  case atStart => exact ⟨0, by omega, rfl, rfl⟩
  case round =>
    obtain ⟨k, hk, rfl, rfl⟩ := hrel
    have hx : ofR (s.data.toList.take k) % 18446744073709551616 < 18446744073709551616 := Nat.mod_lt _ (by decide)
    by_cases hlt : k < s.size
    · have HS : Hid (ofR (s.data.toList.take (k + 1)) % 18446744073709551616 = (ofR (s.data.toList.take k) % 18446744073709551616 * 256 + s[k].toNat) % 18446744073709551616) := by
        unfold Hid; rw [get_snoc s k hlt, ofR_snoc]; omega
      generalize ofR (s.data.toList.take k) % 18446744073709551616 = x at *
      have hb := s[k].toNat_lt
      have HO := Lib.hid (or_eq x s[k].toNat hb)
      go_wp2_with fail
      go_round
      case rel => exact ⟨k + 1, by omega, by go_num, by rw [HO.out, HS.out]⟩
      case measure => simp [intOf]; omega
    · have hk' : k = s.size := by omega
      have HS : Hid (ofV s.data.toList = ofR (s.data.toList.take k) % 18446744073709551616 % 9223372036854775808) := by
        unfold Hid ofV; rw [List.take_of_length_le (by rw [hk']; simp)]; omega
      generalize ofR (s.data.toList.take k) % 18446744073709551616 = x at *
      have hlt' : ¬ ((k : Int) < (s.size : Int)) := by omega
      clear hk'
      have HA := Lib.hid (andn_eq x hx)
      go_wp2_with fail
      rw [HA.out]
      go_ret
      exact ⟨by rw [HS.out]; exact retI (by rw [wrap64_nat _ (by omega)]), rfl⟩

end Go.Proofs.Ytkjnjccjkjachaa
