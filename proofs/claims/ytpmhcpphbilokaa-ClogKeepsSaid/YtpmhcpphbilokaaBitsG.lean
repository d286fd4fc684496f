/- Bytes as a number. -/
import Derived.Test.YtpmhcpphbilokaaBitsF
namespace Go.Proofs.Ytpmhcpphbilokaa
open Go.RowKit
set_option linter.unusedSimpArgs false
set_option maxRecDepth 100000

theorem retU {a b : Int} (h : a = b) : Ending.returned (.int .u32 a) = .returned (.int .u32 b) := by rw [h]

theorem get_snoc (s : ByteArray) (k : Nat) (h : k < s.size) : s.data.toList.take (k + 1) = s.data.toList.take k ++ [s[k]] := by
  rw [List.take_succ_eq_append_getElem (by simpa using h)]; rfl


/-- The number of bytes, the highest one first. -/
def ofR (l : List UInt8) : Nat := l.foldl (fun n b => n * 256 + b.toNat) 0
def ofV (l : List UInt8) : Nat := ofR l % 9223372036854775808
theorem ofR_snoc (l : List UInt8) (b : UInt8) : ofR (l ++ [b]) = ofR l * 256 + b.toNat := by simp [ofR]

theorem or_eq (x b : Nat) (hb : b < 256) : bits BinOp.or IntKind.u64 (IntKind.u64.wrap ((x : Int) * 256)) (b : Int) = ((x * 256 + b) % 18446744073709551616 : Nat) := by
  have h1 : IntKind.u64.wrap ((x : Int) * 256) = (((x % 72057594037927936) * 256 : Nat) : Int) := by rw [IntKind.wrap_u64]; omega
  rw [h1, u64_or_nat _ _ (by omega) (by omega)]
  have h2 := Nat.shiftLeft_add_eq_or_of_lt (i := 8) (b := b) (by omega) (x % 72057594037927936)
  rw [Nat.shiftLeft_eq] at h2
  rw [show (2 : Nat) ^ 8 = 256 from rfl] at h2
  rw [← h2]
  congr 1
  omega
theorem andn_eq (x : Nat) (hx : x < 18446744073709551616) : bits BinOp.andNot IntKind.u64 (x : Int) 9223372036854775808 = (x % 9223372036854775808 : Nat) := by
  have h := u64_andNot_nat x 9223372036854775808 hx (by decide)
  rw [show (18446744073709551615 - 9223372036854775808 : Nat) = 2 ^ 63 - 1 from rfl, Nat.and_two_pow_sub_one_eq_mod] at h
  exact h
theorem wrap64_nat (x : Nat) (hx : x < 9223372036854775808) : wrap64 (x : Int) = x := by
  have h := IntWalk.wrap64_in (x : Int) (by omega)
  exact h

end Go.Proofs.Ytpmhcpphbilokaa
