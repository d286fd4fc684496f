/- The reader's numbers. -/
import Derived.Test.YtkjnjccjkjachaaBitsH
namespace Go.Proofs.Ytkjnjccjkjachaa
open Go.RowKit
set_option linter.unusedSimpArgs false
set_option maxRecDepth 100000

theorem rd_short (most : Int) (f k n : Nat) : rd most (f + 1) k n [] = .inl 10 := by rw [rd]
theorem rd_zero (most : Int) (f k n : Nat) (b : UInt8) (l : List UInt8) (h : b.toNat = 0) (hk : 0 < k) : rd most (f + 1) k n (b :: l) = .inl 11 := by rw [rd, if_pos ⟨h, hk⟩]
theorem rd_go (most : Int) (f k n : Nat) (b : UInt8) (l : List UInt8) (h : 128 ≤ b.toNat) : rd most (f + 1) k n (b :: l) = rd most f (k + 1) (n + b.toNat % 128 * 128 ^ k) l := by
  rw [rd, if_neg (by omega), if_pos h]
theorem rd_much (most : Int) (f k n : Nat) (b : UInt8) (l : List UInt8) (h0 : ¬ (b.toNat = 0 ∧ 0 < k)) (h : ¬ 128 ≤ b.toNat) (hm : max most 0 < ((n + b.toNat % 128 * 128 ^ k : Nat) : Int)) : rd most (f + 1) k n (b :: l) = .inl 11 := by
  rw [rd, if_neg h0, if_neg h, if_pos hm]
theorem rd_ok (most : Int) (f k n : Nat) (b : UInt8) (l : List UInt8) (h0 : ¬ (b.toNat = 0 ∧ 0 < k)) (h : ¬ 128 ≤ b.toNat) (hm : ¬ max most 0 < ((n + b.toNat % 128 * 128 ^ k : Nat) : Int)) : rd most (f + 1) k n (b :: l) = .inr (n + b.toNat % 128 * 128 ^ k, k + 1) := by
  rw [rd, if_neg h0, if_neg h, if_neg hm]

/-- What a number's taking does. -/
def numOut (s : ByteArray) (most : Int) : Int × ByteArray × Int :=
  match rd most 9 0 0 s.data.toList with
  | .inl c => (0, ⟨#[]⟩, c)
  | .inr (n, k) => (n, ⟨(s.data.toList.drop k).toArray⟩, 0)

theorem num_err (br : Nat) (s : ByteArray) (c most : Int) (w : World) (h : RdV w br s c) (hc : c ≠ 0) :
    Calls Try.prog 50 #[.pointer (some ⟨br, 0, none⟩), .int .i64 most] w fun e w' => e = .returned (.int .i64 0) ∧ w = w' := by
  have h1 := h.err
  have hc' : (c == 0) = false := by rw [beq_eq_false_iff_ne]; exact hc
  clear h hc
  go_enter Try.func50, Try.ntmps50
  go_wp2_with fail
  go_ret
  exact ⟨rfl, rfl⟩

theorem pow_le9 {k : Nat} (hk : k ≤ 9) : 128 ^ k ≤ 9223372036854775808 := by
  have := Nat.pow_le_pow_right (n := 128) (by decide) hk
  simpa using this
theorem acc_lt {k n b : Nat} (h : n < 128 ^ k) : n + b % 128 * 128 ^ k < 128 ^ (k + 1) := by
  rw [Nat.pow_succ]
  have h1 : b % 128 ≤ 127 := by omega
  have := Nat.mul_le_mul_right (128 ^ k) h1
  omega

theorem i64_or_nat (a b : Nat) (ha : a < 9223372036854775808) (hb : b < 9223372036854775808) : bits .or .i64 (a : Int) (b : Int) = ((a ||| b : Nat) : Int) := by
  have hx : a ||| b < 2 ^ 63 := Nat.or_lt_two_pow (by omega) (by omega)
  show IntKind.i64.wrap ((BitVec.ofInt 64 (a : Int) ||| BitVec.ofInt 64 (b : Int)).toNat : Int) = _
  rw [BitVec.toNat_or, ofInt_u64 a (by omega), ofInt_u64 b (by omega), IntKind.wrap_i64]
  omega
theorem or7 (k n b : Nat) (hk : k < 9) (hn : n < 128 ^ k) (hb : b < 256) :
    bits BinOp.or IntKind.i64 (n : Int) (wrap64 (wrap64 (bits BinOp.and IntKind.u8 (b : Int) 127) * 2 ^ (7 * k))) = (n + b % 128 * 128 ^ k : Nat) := by
  have h1 : bits BinOp.and IntKind.u8 (b : Int) 127 = (b % 128 : Nat) := by
    have h := u8_and_nat b 127 hb (by decide)
    rw [show (127 : Nat) = 2 ^ 7 - 1 from rfl, Nat.and_two_pow_sub_one_eq_mod] at h
    exact h
  have hp : 128 ^ (k + 1) ≤ 9223372036854775808 := pow_le9 (by omega)
  have h2 := acc_lt (b := b) hn
  have h3 : (2 : Int) ^ (7 * k) = (128 ^ k : Nat) := by rw [Int.pow_mul]; simp
  rw [h1, wrap64_nat _ (by omega), h3]
  have h4 : ((b % 128 : Nat) : Int) * ((128 ^ k : Nat) : Int) = ((b % 128 * 128 ^ k : Nat) : Int) := by simp
  rw [h4, wrap64_nat _ (by omega), i64_or_nat _ _ (by omega) (by omega)]
  have h5 := Nat.shiftLeft_add_eq_or_of_lt (i := 7 * k) (b := n) (by rw [Nat.pow_mul]; exact hn) (b % 128)
  rw [Nat.shiftLeft_eq, Nat.pow_mul] at h5
  rw [Nat.or_comm]
  rw [show (2 ^ 7 : Nat) = 128 from rfl] at h5
  rw [← h5, Nat.add_comm]

theorem sub_drop (s : ByteArray) (k : Nat) : s.extract k s.size = ⟨(s.data.toList.drop k).toArray⟩ := by
  apply ByteArray.ext
  apply Array.ext'
  rw [ByteArray.data_extract, Array.toList_extract, List.extract_eq_take_drop]
  exact List.take_of_length_le (by rw [List.length_drop]; exact Nat.le_refl _)
theorem sub_take (s : ByteArray) (k : Nat) : s.extract 0 k = ⟨(s.data.toList.take k).toArray⟩ := by
  apply ByteArray.ext
  apply Array.ext'
  rw [ByteArray.data_extract, Array.toList_extract, List.extract_eq_take_drop]
  rfl

set_option maxRecDepth 100000 in
set_option maxHeartbeats 4000000 in
theorem num_r (br : Nat) (s : ByteArray) (most : Int) (w : World) (h : RdV w br s 0) :
    Calls Try.prog 50 #[.pointer (some ⟨br, 0, none⟩), .int .i64 most] w fun e w' =>
      e = .returned (.int .i64 (numOut s most).1) ∧ RdV w' br (numOut s most).2.1 (numOut s most).2.2 ∧ w.grownBy w' (some br) := by
  have h0 := h.rest
  have h1 := h.err
  have hf0 := h.f0
  have H := Lib.hid h
  clear h
  go_enter Try.func50, Try.ntmps50
  go_wp2_with fail
  go_loop [5, 6, 7, 17, 43, 52, 55] (fun x _ _ i _ _ _ => ∃ k n : Nat, k ≤ 9 ∧ i = .int .i64 k ∧ x = .int .i64 n ∧ Hid (n < 128 ^ k) ∧ Hid (rd most 9 0 0 s.data.toList = rd most (9 - k) k n (s.data.toList.drop k))) (fun _ _ _ i _ _ _ => 9 - (intOf i).toNat)
  case atStart => exact ⟨0, 0, by omega, rfl, rfl, by unfold Hid; decide, rfl⟩
  case round =>
    obtain ⟨k, n, hk, rfl, rfl, HN, HR⟩ := hrel
    by_cases h9 : k < 9
    · obtain ⟨f, hf⟩ : ∃ f, 9 - k = f + 1 := ⟨8 - k, by omega⟩
      have hf' : 9 - (k + 1) = f := by omega
      have HF := Lib.hid hf
      clear hf
      by_cases hsh : k < s.size
      · have hb := s[k].toNat_lt
        have hbe : Hid (s.data.toList.drop k = s[k] :: s.data.toList.drop (k + 1)) := by
          unfold Hid; rw [List.drop_eq_getElem_cons (by simpa using hsh)]; rfl
        by_cases hz : s[k].toNat = 0 ∧ 0 < k
        · obtain ⟨hz1, hz2⟩ := hz
          have hz1' : ((s[k].toNat : Int) == 0) = true := by rw [beq_iff_eq]; omega
          have HO : Hid (numOut s most = (0, ⟨#[]⟩, 11)) := by
            unfold Hid numOut; rw [HR.out, HF.out, hbe.out, rd_zero _ _ _ _ _ _ hz1 hz2]; rfl
          clear hz1
          go_wp2_with fail
          refine (fail_c br s 0 11 _ H.out).mono ?_
          rintro e w1 ⟨rfl, hr, hg⟩
          have HR1 := Lib.hid hr
          clear hr
          go_wp2_with fail
          go_ret
          rw [HO.out]
          exact ⟨rfl, HR1.out, hg⟩
        · by_cases hg : 128 ≤ s[k].toNat
          · have hz' : ¬ s[k].toNat = 0 := by omega
            have HO := Lib.hid (or7 k n s[k].toNat h9 HN.out hb)
            have HA := Lib.hid (acc_lt (b := s[k].toNat) HN.out)
            have HR2 : Hid (rd most 9 0 0 s.data.toList = rd most (9 - (k + 1)) (k + 1) (n + s[k].toNat % 128 * 128 ^ k) (s.data.toList.drop (k + 1))) := by
              unfold Hid; rw [HR.out, HF.out, hbe.out, rd_go _ _ _ _ _ _ hg, hf']
            go_wp2_with fail
            go_round
            case rel => exact ⟨k + 1, _, by omega, by go_num, by rw [HO.out], HA, HR2⟩
            case measure => simp [intOf]; omega
          · have hO := or7 k n s[k].toNat h9 HN.out hb
            have hA := Nat.lt_of_lt_of_le (acc_lt (b := s[k].toNat) HN.out) (pow_le9 (k := k + 1) (by omega))
            have HXL : Hid (max most 0 < ((n + s[k].toNat % 128 * 128 ^ k : Nat) : Int) → numOut s most = (0, ⟨#[]⟩, 11)) := by
              intro hm
              unfold numOut; rw [HR.out, HF.out, hbe.out, rd_much _ _ _ _ _ _ hz hg hm]; rfl
            have HXR : Hid (¬ max most 0 < ((n + s[k].toNat % 128 * 128 ^ k : Nat) : Int) → numOut s most = (((n + s[k].toNat % 128 * 128 ^ k : Nat) : Int), ⟨(s.data.toList.drop (k + 1)).toArray⟩, 0)) := by
              intro hm
              unfold numOut; rw [HR.out, HF.out, hbe.out, rd_ok _ _ _ _ _ _ hz hg hm]
            have HSUB := Lib.hid (sub_drop s (k + 1))
            generalize n + s[k].toNat % 128 * 128 ^ k = m at *
            by_cases hneg : most < 0
            · by_cases hb0 : s[k].toNat = 0
              · have hk0 : ¬ 0 < k := fun h => hz ⟨hb0, h⟩
                rw [hb0, show ((0 : Nat) : Int) = 0 from rfl] at hO
                clear hz hg
                by_cases hm : (0 : Int) < (m : Int)
                · have HX := Lib.hid (HXL.out (by omega))
                  go_wp2_with fail
                  refine (fail_c br s 0 11 _ H.out).mono ?_
                  rintro e w1 ⟨rfl, hr, hg⟩
                  have HR1 := Lib.hid hr
                  clear hr
                  go_wp2_with fail
                  go_ret
                  rw [HX.out]
                  exact ⟨rfl, HR1.out, hg⟩
                · have HX := Lib.hid (HXR.out (by omega))
                  go_wp2_with fail
                  go_ret
                  rw [HX.out]
                  exact ⟨rfl, by rw [← HSUB.out]; exact H.out.setS _, grown_set _ _ _ _⟩
              · clear hz
                by_cases hm : (0 : Int) < (m : Int)
                · have HX := Lib.hid (HXL.out (by omega))
                  go_wp2_with fail
                  refine (fail_c br s 0 11 _ H.out).mono ?_
                  rintro e w1 ⟨rfl, hr, hg⟩
                  have HR1 := Lib.hid hr
                  clear hr
                  go_wp2_with fail
                  go_ret
                  rw [HX.out]
                  exact ⟨rfl, HR1.out, hg⟩
                · have HX := Lib.hid (HXR.out (by omega))
                  go_wp2_with fail
                  go_ret
                  rw [HX.out]
                  exact ⟨rfl, by rw [← HSUB.out]; exact H.out.setS _, grown_set _ _ _ _⟩
            · by_cases hb0 : s[k].toNat = 0
              · have hk0 : ¬ 0 < k := fun h => hz ⟨hb0, h⟩
                rw [hb0, show ((0 : Nat) : Int) = 0 from rfl] at hO
                clear hz hg
                by_cases hm : most < (m : Int)
                · have HX := Lib.hid (HXL.out (by omega))
                  go_wp2_with fail
                  refine (fail_c br s 0 11 _ H.out).mono ?_
                  rintro e w1 ⟨rfl, hr, hg⟩
                  have HR1 := Lib.hid hr
                  clear hr
                  go_wp2_with fail
                  go_ret
                  rw [HX.out]
                  exact ⟨rfl, HR1.out, hg⟩
                · have HX := Lib.hid (HXR.out (by omega))
                  go_wp2_with fail
                  go_ret
                  rw [HX.out]
                  exact ⟨rfl, by rw [← HSUB.out]; exact H.out.setS _, grown_set _ _ _ _⟩
              · clear hz
                by_cases hm : most < (m : Int)
                · have HX := Lib.hid (HXL.out (by omega))
                  go_wp2_with fail
                  refine (fail_c br s 0 11 _ H.out).mono ?_
                  rintro e w1 ⟨rfl, hr, hg⟩
                  have HR1 := Lib.hid hr
                  clear hr
                  go_wp2_with fail
                  go_ret
                  rw [HX.out]
                  exact ⟨rfl, HR1.out, hg⟩
                · have HX := Lib.hid (HXR.out (by omega))
                  go_wp2_with fail
                  go_ret
                  rw [HX.out]
                  exact ⟨rfl, by rw [← HSUB.out]; exact H.out.setS _, grown_set _ _ _ _⟩
      · have HO : Hid (numOut s most = (0, ⟨#[]⟩, 10)) := by
          have hd : s.data.toList.drop k = [] := List.drop_eq_nil_of_le (by simpa using Nat.le_of_not_lt hsh)
          unfold Hid numOut; rw [HR.out, HF.out, hd, rd_short]; rfl
        go_wp2_with fail
        refine (fail_c br s 0 10 _ H.out).mono ?_
        rintro e w1 ⟨rfl, hr, hg⟩
        have HR1 := Lib.hid hr
        clear hr
        go_wp2_with fail
        go_ret
        rw [HO.out]
        exact ⟨rfl, HR1.out, hg⟩
    · have hk9 : k = 9 := by omega
      have HO : Hid (numOut s most = (0, ⟨#[]⟩, 11)) := by
        unfold Hid numOut; rw [HR.out, hk9, rd]; rfl
      have h9' : ¬ ((k : Int) < 9) := by omega
      clear hk9
      go_wp2_with fail
      refine (fail_c br s 0 11 _ H.out).mono ?_
      rintro e w1 ⟨rfl, hr, hg⟩
      have HR1 := Lib.hid hr
      clear hr
      go_wp2_with fail
      go_ret
      rw [HO.out]
      exact ⟨rfl, HR1.out, hg⟩
end Go.Proofs.Ytkjnjccjkjachaa
