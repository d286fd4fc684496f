/- The contracts of bits.Sum and of the reference's. -/
import Derived.Test.YtkjnjccjkjachaaCrc
namespace Go.Proofs.Ytkjnjccjkjachaa
open Go.RowKit
set_option linter.unusedSimpArgs false
set_option maxRecDepth 100000

theorem retUa {a b : Int} (h : a = b) : Ending.returned (.int .u32 a) = .returned (.int .u32 b) := by rw [h]

theorem step_eq (x : Nat) (hx : x < 4294967296) : bits BinOp.xor IntKind.u32 ((x : Int) / 2) (bits BinOp.and IntKind.u32 3988292384 (-bits BinOp.and IntKind.u32 (x : Int) 1 % 4294967296)) = (cstep x : Nat) := by
  have h1 : bits BinOp.and IntKind.u32 (x : Int) 1 = ((x % 2 : Nat) : Int) := by
    have := u32_and_nat x 1 hx (by decide); rw [Nat.and_one_is_mod] at this; exact this
  have h2 : ((x : Int) / 2) = ((x / 2 : Nat) : Int) := by omega
  rw [h1, h2]
  unfold cstep
  rcases Nat.mod_two_eq_zero_or_one x with h | h
  · rw [h, if_neg (by omega)]
    have h3 : bits BinOp.and IntKind.u32 3988292384 (-((0 : Nat) : Int) % 4294967296) = ((0 : Nat) : Int) := by decide
    rw [h3, u32_xor_nat _ _ (by omega) (by decide), Nat.xor_zero]
  · rw [h, if_pos rfl]
    have h3 : bits BinOp.and IntKind.u32 3988292384 (-((1 : Nat) : Int) % 4294967296) = ((3988292384 : Nat) : Int) := by decide
    rw [h3, u32_xor_nat _ _ (by omega) (by decide)]

set_option maxHeartbeats 400000 in
theorem bturned_c (c : Nat) (w : World) (hc : c < 4294967296) :
    Calls Try.prog 44 #[.int .u32 c] w fun e w' => e = .returned (.int .u32 (cturn c : Nat)) ∧ w = w' := by
  go_enter Try.func44, Try.ntmps44
  go_wp2_with fail
  go_loop [0, 3] (fun x i => ∃ k : Nat, k ≤ 8 ∧ i = .int .i64 k ∧ x = .int .u32 (citer k c : Nat)) (fun _ i => 8 - (intOf i).toNat)
  case atStart => exact ⟨0, by omega, rfl, rfl⟩
  case round =>
    obtain ⟨k, hk, rfl, rfl⟩ := hrel
    have hx := citer_lt k hc
    by_cases hlt : k < 8
    · have HS : Hid (citer (k + 1) c = cstep (citer k c)) := rfl
      generalize hcx : citer k c = x at *
      have HC := Lib.hid hcx
      clear hcx
      go_wp2_with fail
      go_round
      case rel => exact ⟨k + 1, by omega, by go_num, by rw [HS.out, ← step_eq x hx]⟩
      case measure => simp [intOf]; omega
    · have hk8 : k = 8 := by omega
      have HS : Hid (citer k c = cturn c) := by subst hk8; rfl
      generalize hcx : citer k c = x at *
      have h8 : ¬ ((k : Int) < 8) := by omega
      clear hk8
      go_wp2_with fail
      go_ret
      exact ⟨retUa (by rw [HS.out]), rfl⟩

theorem get_snoca (s : ByteArray) (k : Nat) (h : k < s.size) : s.data.toList.take (k + 1) = s.data.toList.take k ++ [s[k]] := by
  rw [List.take_succ_eq_append_getElem (by simpa using h)]; rfl

theorem low_eq (c : Nat) (hc : c < 4294967296) : bits BinOp.and IntKind.u32 (c : Int) 255 = ((c % 256 : Nat) : Int) := by
  have := u32_and_nat c 255 hc (by decide)
  rw [show (255 : Nat) = 2 ^ 8 - 1 from rfl, Nat.and_two_pow_sub_one_eq_mod] at this
  exact this

theorem turn_join (x b : Nat) (hx : x < 4294967296) (hb : b < 256) : bits BinOp.xor IntKind.u32 ((x : Int) / 256) ((cturn ((x % 256) ^^^ b) : Nat) : Int) = ((cturn (x ^^^ b) : Nat) : Int) := by
  rw [cturn_split x b, show ((x : Int) / 256) = ((x / 256 : Nat) : Int) from by omega, u32_xor_nat _ _ (by omega) (cturn_lt (cxor_lt (by omega) (by omega)))]
theorem not_eq' (x : Nat) (hx : x < 4294967296) : bits BinOp.xor IntKind.u32 IntKind.u32.max (x : Int) = ((x ^^^ 4294967295 : Nat) : Int) := by
  rw [Nat.xor_comm]; exact u32_xor_nat 4294967295 x (by decide) hx

set_option maxHeartbeats 400000 in
theorem sum_c (s : ByteArray) (w : World) (hs : s.size ≤ 9223372036854775807) :
    Calls Try.prog 26 #[.string s] w fun e w' => e = .returned (.int .u32 (csum s.data.toList : Nat)) ∧ w = w' := by
  go_enter Try.func26, Try.ntmps26
  go_wp2_with fail
  go_loop [3, 7] (fun x i => ∃ k : Nat, k ≤ s.size ∧ i = .int .i64 k ∧ x = .int .u32 (cfold 4294967295 (s.data.toList.take k) : Nat)) (fun _ i => s.size - (intOf i).toNat)
  case atStart => exact ⟨0, by omega, rfl, rfl⟩
  case round =>
    obtain ⟨k, hk, rfl, rfl⟩ := hrel
    have hx := cfold_lt (c := 4294967295) (s.data.toList.take k) (by decide)
    by_cases hlt : k < s.size
    · have HS : Hid (cfold 4294967295 (s.data.toList.take (k + 1)) = cturn (cfold 4294967295 (s.data.toList.take k) ^^^ s[k].toNat)) := by
        unfold Hid; rw [get_snoca s k hlt, cfold_snoc]
      generalize hcx : cfold 4294967295 (s.data.toList.take k) = x at *
      have HC := Lib.hid hcx
      clear hcx
      have hb := s[k].toNat_lt
      have HL := Lib.hid (low_eq x hx)
      go_wp2_with fail
      rw [HL.out, u32_xor_nat _ _ (by omega) (by omega)]
      refine (bturned_c _ _ (cxor_lt (by omega) (by omega))).mono ?_
      rintro e w' ⟨rfl, rfl⟩
      go_wp2_with fail
      go_round
      case rel => exact ⟨k + 1, by omega, by go_num, by rw [HS.out, ← turn_join x _ hx (by omega)]⟩
      case measure => simp [intOf]; omega
    · have hk' : k = s.size := by omega
      have HS : Hid (cfold 4294967295 (s.data.toList.take k) ^^^ 4294967295 = csum s.data.toList) := by
        unfold Hid csum; rw [List.take_of_length_le (by rw [hk']; simp)]
      generalize hcx : cfold 4294967295 (s.data.toList.take k) = x at *
      have hlt' : ¬ ((k : Int) < (s.size : Int)) := by omega
      clear hk'
      go_wp2_with fail
      go_ret
      exact ⟨retUa (by rw [not_eq' x hx, HS.out]), rfl⟩

end Go.Proofs.Ytkjnjccjkjachaa
