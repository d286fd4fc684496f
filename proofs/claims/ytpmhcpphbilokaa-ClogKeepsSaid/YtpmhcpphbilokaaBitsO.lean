/- The reference's reader: numbers. -/
import Derived.Test.YtpmhcpphbilokaaBitsN
namespace Go.Proofs.Ytpmhcpphbilokaa
open Go.RowKit
set_option linter.unusedSimpArgs false
set_option maxRecDepth 100000

/-- What is left of a text behind a place. -/
def dropS (s : ByteArray) (a : Nat) : ByteArray := ⟨(s.data.toList.drop a).toArray⟩
theorem dropS_list (s : ByteArray) (a : Nat) : (dropS s a).data.toList = s.data.toList.drop a := by unfold dropS; rw [List.toList_toArray]

theorem rfnum_err (bx : Nat) (s : ByteArray) (a : Nat) (c most : Int) (w : World) (h : RfV w bx s a c) (hc : c ≠ 0) :
    Calls Try.prog 52 #[.pointer (some ⟨bx, 0, none⟩), .int .i64 most] w fun e w' => e = .returned (.int .i64 0) ∧ w = w' := by
  have h1 := h.err
  have hc' : (c == 0) = false := by rw [beq_eq_false_iff_ne]; exact hc
  clear h hc
  go_enter Try.func52, Try.ntmps52
  go_wp2_with fail
  go_ret
  exact ⟨rfl, rfl⟩

set_option maxRecDepth 100000 in
set_option maxHeartbeats 4000000 in
theorem rfnum_c (bx : Nat) (s : ByteArray) (a : Nat) (most : Int) (w : World) (h : RfV w bx s a 0) (hs : s.size ≤ 9223372036854775000) :
    Calls Try.prog 52 #[.pointer (some ⟨bx, 0, none⟩), .int .i64 most] w fun e w' =>
      e = .returned (.int .i64 (numOut (dropS s a) most).1) ∧ (∃ a', RfV w' bx s a' (numOut (dropS s a) most).2.2 ∧ ((numOut (dropS s a) most).2.2 = 0 → (numOut (dropS s a) most).2.1 = dropS s a')) ∧ w.grownBy w' (some bx) := by
  have h1 := h.err
  have hle := h.le
  have H := Lib.hid h
  clear h
  go_enter Try.func52, Try.ntmps52
  go_wp2_with fail
  go_loopw [5, 6, 7, 8] (fun x u i _ wr => ∃ k n : Nat, k ≤ 8 ∧ i = .int .i64 (k + 1 : Nat) ∧ x = .int .i64 n ∧ u = .int .i64 (128 ^ k : Nat) ∧ Hid (n < 128 ^ k) ∧ Hid (rd most 9 0 0 (s.data.toList.drop a) = rd most (9 - k) k n (s.data.toList.drop (a + k))) ∧ Hid (RfV wr bx s a 0) ∧ Hid (Below w.heap.size w wr)) (fun _ _ i _ _ => 10 - (intOf i).toNat)
  case atStart => exact ⟨0, 0, by omega, rfl, rfl, rfl, by unfold Hid; decide, rfl, H, Below.refl _ _⟩
  case round =>
    obtain ⟨k, n, hk, rfl, rfl, rfl, HN, HR, HV, HB⟩ := hrel
    have h0 := HV.out.str
    have h1 := HV.out.at'
    obtain ⟨f, hf⟩ : ∃ f, 9 - k = f + 1 := ⟨8 - k, by omega⟩
    have HF := Lib.hid hf
    have hf' : 9 - (k + 1) = f := by omega
    clear hf
    by_cases hsh : a + k < s.size
    · obtain ⟨j, hj⟩ : ∃ j, j = a + k := ⟨_, rfl⟩
      have hjs : j < s.size := by omega
      have hb := s[j].toNat_lt
      have hbe : Hid (s.data.toList.drop (a + k) = s[j] :: s.data.toList.drop (a + (k + 1))) := by
        subst hj
        unfold Hid; rw [List.drop_eq_getElem_cons (by simpa using hsh)]; rfl
      have hp : 128 ^ k ≤ 72057594037927936 := by
        have := Nat.pow_le_pow_right (n := 128) (by decide) hk
        simpa using this
      have hA := Nat.lt_of_lt_of_le (acc_lt (b := s[j].toNat) HN.out) (pow_le9 (k := k + 1) (by omega))
      have hA2 := acc_lt (b := s[j].toNat) HN.out
      have hw1 : IntKind.i64.wrap ((a : Int) + ((k : Int) + 1)) = (j : Int) + 1 := by rw [IntWalk.i64_in _ (by omega)]; omega
      have hw3 : IntKind.i64.wrap (j : Int) = (j : Int) := IntWalk.i64_in _ (by omega)
      have hgt : ¬ ((s.size : Int) < (a : Int) + ((k : Int) + 1)) := by omega
      have HJ := Lib.hid hj
      clear hj hsh
      by_cases hz : (k = 8 ∧ 128 ≤ s[j].toNat) ∨ (s[j].toNat = 0 ∧ 0 < k)
      · have HO : Hid (numOut (dropS s a) most = (0, ⟨#[]⟩, 11)) := by
          unfold Hid numOut; rw [dropS_list, HR.out, HF.out, hbe.out]
          by_cases hz2 : s[j].toNat = 0 ∧ 0 < k
          · rw [rd_zero _ _ _ _ _ _ hz2.1 hz2.2]; rfl
          · have hz3 := hz.resolve_right hz2
            have hf0 : f = 0 := by have := HF.out; omega
            rw [rd_go _ _ _ _ _ _ hz3.2, hf0, rd]; rfl
        generalize 128 ^ k = u at *
        rcases hz with ⟨hz1, hz2⟩ | ⟨hz1, hz2⟩
        · have e8 : ((k : Int) + 1 == 9) = true := by rw [beq_iff_eq]; omega
          have g8 : ((k + 1 : Nat) : Int) = 9 := by omega
          have hw9 : IntKind.i64.wrap ((a : Int) + 9) = (j : Int) + 1 := by rw [IntWalk.i64_in _ (by omega)]; have := HJ.out; omega
          clear hz1
          go_wp2_with fail
          go_quiet (fail)
          go_wp2_with fail
          have HV1 := Lib.hid (HV.out.drewN nq)
          have HB1 := Lib.hid (HB.out.trans ((below_drewN wr nq).mono HB.out.size))
          generalize wr.drewN nq = wq at *
          have h0' := HV1.out.str
          have h1' := HV1.out.at'
          go_quiet (fail)
          have HV2 := Lib.hid (HV1.out.drewN nq)
          have HB2 := Lib.hid (HB1.out.trans ((below_drewN wq nq).mono HB1.out.size))
          generalize wq.drewN nq = wz at *
          have h1z := HV2.out.at'
          have hfz := HV2.out.f1
          go_wp2_with fail
          refine (wrong_c bx s a 0 11 _ HV2.out).mono ?_
          rintro e w1 ⟨rfl, hr, hg⟩
          have HR1 := Lib.hid hr
          have HG := Lib.hid (grown_trans (grown_row (grown_of HB2.out) _) hg)
          clear hr hg
          go_wp2_with fail
          go_ret
          rw [HO.out]
          exact ⟨rfl, ⟨a, HR1.out, fun h => by cases h⟩, HG.out⟩
        · have e0 : (s[j].toNat : Int) = 0 := by omega
          clear hz1
          go_wp2_with fail
          go_quiet (fail)
          go_wp2_with fail
          have HV1 := Lib.hid (HV.out.drewN nq)
          have HB1 := Lib.hid (HB.out.trans ((below_drewN wr nq).mono HB.out.size))
          generalize wr.drewN nq = wq at *
          have h0' := HV1.out.str
          have h1' := HV1.out.at'
          go_quiet (fail)
          have HV2 := Lib.hid (HV1.out.drewN nq)
          have HB2 := Lib.hid (HB1.out.trans ((below_drewN wq nq).mono HB1.out.size))
          generalize wq.drewN nq = wz at *
          have h1z := HV2.out.at'
          have hfz := HV2.out.f1
          go_wp2_with fail
          all_goals (
            refine (wrong_c bx s a 0 11 _ HV2.out).mono ?_
            rintro e w1 ⟨rfl, hr, hg⟩
            have HR1 := Lib.hid hr
            have HG := Lib.hid (grown_trans (grown_row (grown_of HB2.out) _) hg)
            clear hr hg
            go_wp2_with fail
            go_ret
            rw [HO.out]
            exact ⟨rfl, ⟨a, HR1.out, fun h => by cases h⟩, HG.out⟩)
      · by_cases hg : 128 ≤ s[j].toNat
        · have hk8 : k < 8 := by omega
          have hz0 : ¬ s[j].toNat = 0 := by omega
          have h8 : ((k : Int) + 1 == 9) = false := by rw [beq_eq_false_iff_ne]; omega
          have HR2 : Hid (rd most 9 0 0 (s.data.toList.drop a) = rd most (9 - (k + 1)) (k + 1) (n + s[j].toNat % 128 * 128 ^ k) (s.data.toList.drop (a + (k + 1)))) := by
            unfold Hid; rw [HR.out, HF.out, hbe.out, rd_go _ _ _ _ _ _ hg, hf']
          have HU : Hid (128 ^ (k + 1) = 128 ^ k * 128) := Nat.pow_succ ..
          have HA2 := Lib.hid hA2
          have HW1 : Hid (wrap64 ((s[j].toNat : Int) % 128 * (128 ^ k : Nat)) = ((s[j].toNat % 128 * 128 ^ k : Nat) : Int)) := by
            have e : (s[j].toNat : Int) % 128 * (128 ^ k : Nat) = ((s[j].toNat % 128 * 128 ^ k : Nat) : Int) := by simp
            unfold Hid; rw [e]; exact wrap64_nat _ (Nat.lt_of_le_of_lt (Nat.le_add_left _ _) hA)
          have HW2 : Hid (wrap64 ((n : Int) + ((s[j].toNat % 128 * 128 ^ k : Nat) : Int)) = ((n + s[j].toNat % 128 * 128 ^ k : Nat) : Int)) := by
            unfold Hid; rw [← Int.natCast_add]; exact wrap64_nat _ hA
          have HW3 : Hid (wrap64 (128 * ((128 ^ k : Nat) : Int)) = ((128 ^ k * 128 : Nat) : Int)) := by
            have e : 128 * ((128 ^ k : Nat) : Int) = ((128 ^ k * 128 : Nat) : Int) := by simp; omega
            have h8' : 128 ^ (k + 1) ≤ 72057594037927936 := by
              have := Nat.pow_le_pow_right (n := 128) (by decide) (show k + 1 ≤ 8 by omega)
              simpa using this
            unfold Hid; rw [e]; exact wrap64_nat _ (by rw [← Nat.pow_succ]; omega)
          generalize 128 ^ k = u at *
          clear hz hA2
          go_wp2_with fail
          go_quiet (fail)
          go_wp2_with fail
          have HV1 := Lib.hid (HV.out.drewN nq)
          have HB1 := Lib.hid (HB.out.trans ((below_drewN wr nq).mono HB.out.size))
          generalize wr.drewN nq = wq at *
          have h0' := HV1.out.str
          have h1' := HV1.out.at'
          go_quiet (fail)
          have HV2 := Lib.hid (HV1.out.drewN nq)
          have HB2 := Lib.hid (HB1.out.trans ((below_drewN wq nq).mono HB1.out.size))
          generalize wq.drewN nq = wz at *
          have h1z := HV2.out.at'
          have hfz := HV2.out.f1
          go_wp2_with fail
          go_roundw
          case rel => exact ⟨k + 1, _, by omega, by go_num, by rw [HW1.out, HW2.out], by rw [HU.out, HW3.out], HA2, HR2, HV2, HB2⟩
          case measure => simp [intOf]; omega
        · have HXL : Hid (max most 0 < ((n + s[j].toNat % 128 * 128 ^ k : Nat) : Int) → numOut (dropS s a) most = (0, ⟨#[]⟩, 11)) := by
            intro hm
            unfold numOut; rw [dropS_list, HR.out, HF.out, hbe.out, rd_much _ _ _ _ _ _ (fun h => hz (.inr h)) hg hm]; rfl
          have HXR : Hid (¬ max most 0 < ((n + s[j].toNat % 128 * 128 ^ k : Nat) : Int) → numOut (dropS s a) most = (((n + s[j].toNat % 128 * 128 ^ k : Nat) : Int), dropS s (j + 1), 0)) := by
            intro hm
            unfold numOut; rw [dropS_list, HR.out, HF.out, hbe.out, rd_ok _ _ _ _ _ _ (fun h => hz (.inr h)) hg hm]
            simp only [List.drop_drop]
            have e : a + (k + 1) = j + 1 := by have := HJ.out; omega
            rw [e]; rfl
          have hw5 : wrap64 ((s[j].toNat : Int) % 128 * (128 ^ k : Nat)) = ((s[j].toNat % 128 * 128 ^ k : Nat) : Int) := by
            have e : (s[j].toNat : Int) % 128 * (128 ^ k : Nat) = ((s[j].toNat % 128 * 128 ^ k : Nat) : Int) := by simp
            rw [e]; exact wrap64_nat _ (Nat.lt_of_le_of_lt (Nat.le_add_left _ _) hA)
          have hw6 : wrap64 ((n : Int) + ((s[j].toNat % 128 * 128 ^ k : Nat) : Int)) = ((n + s[j].toNat % 128 * 128 ^ k : Nat) : Int) := by
            rw [← Int.natCast_add]; exact wrap64_nat _ hA
          have HW5 := Lib.hid hw5
          have HW6 := Lib.hid hw6
          clear hw5 hw6
          have hA' := hA
          clear hA hA2
          generalize hm : n + s[j].toNat % 128 * 128 ^ k = m at *
          clear hm
          generalize hq : s[j].toNat % 128 * 128 ^ k = q at *
          have HQ : Hid (s[j].toNat = 0 → q = 0) := by unfold Hid; intro h; rw [← hq, h]; simp
          clear hq
          generalize 128 ^ k = u at *
          by_cases hb0 : s[j].toNat = 0
          · have hk0 : ¬ ((1 : Int) < (k : Int) + 1) := by omega
            rw [HQ.out hb0, Int.natCast_zero, Int.add_zero] at HW6
            have g8 : ((k : Int) + 1 == 9) = false := by rw [beq_eq_false_iff_ne]; omega
            rw [hb0, show ((0 : Nat) : Int) = 0 from rfl] at HW5
            clear hz hg
            rcases Int.lt_trichotomy most 0 with hneg | hneg | hneg
            · skip
              by_cases hm : 0 < m
              · have HX := Lib.hid (HXL.out (by omega))
                have hw5 := congrArg (Value.int .i64) HW5.out
                have hw6 := congrArg (Value.int .i64) HW6.out
                go_wp2_with fail
                go_quiet (fail)
                go_wp2_with fail
                have HV1 := Lib.hid (HV.out.drewN nq)
                have HB1 := Lib.hid (HB.out.trans ((below_drewN wr nq).mono HB.out.size))
                generalize wr.drewN nq = wq at *
                have h0' := HV1.out.str
                have h1' := HV1.out.at'
                go_quiet (fail)
                have HV2 := Lib.hid (HV1.out.drewN nq)
                have HB2 := Lib.hid (HB1.out.trans ((below_drewN wq nq).mono HB1.out.size))
                generalize wq.drewN nq = wz at *
                have h1z := HV2.out.at'
                have hfz := HV2.out.f1
                have HV3 := Lib.hid (HV2.out.setA (a' := j + 1) hjs)
                have HB3 := Lib.hid (grown_trans (grown_row (grown_of HB2.out) (some bx)) (grown_set wz bx 1 (.int .i64 (j + 1 : Nat))))
                have ecast : ((j + 1 : Nat) : Int) = (j : Int) + 1 := rfl
                rw [ecast] at HV3 HB3
                clear ecast
                go_wp2_with fail
                refine (wrong_c bx s (j + 1) 0 11 _ HV3.out).mono ?_
                rintro e w1 ⟨rfl, hr, hg⟩
                have HR1 := Lib.hid hr
                have HG := Lib.hid (grown_trans HB3.out hg)
                clear hr hg
                go_wp2_with fail
                go_ret
                rw [HX.out]
                exact ⟨rfl, ⟨j + 1, HR1.out, fun h => by cases h⟩, HG.out⟩
              · have HX := Lib.hid (HXR.out (by omega))
                have hw5 := congrArg (Value.int .i64) HW5.out
                have hw6 := congrArg (Value.int .i64) HW6.out
                go_wp2_with fail
                go_quiet (fail)
                go_wp2_with fail
                have HV1 := Lib.hid (HV.out.drewN nq)
                have HB1 := Lib.hid (HB.out.trans ((below_drewN wr nq).mono HB.out.size))
                generalize wr.drewN nq = wq at *
                have h0' := HV1.out.str
                have h1' := HV1.out.at'
                go_quiet (fail)
                have HV2 := Lib.hid (HV1.out.drewN nq)
                have HB2 := Lib.hid (HB1.out.trans ((below_drewN wq nq).mono HB1.out.size))
                generalize wq.drewN nq = wz at *
                have h1z := HV2.out.at'
                have hfz := HV2.out.f1
                have HV3 := Lib.hid (HV2.out.setA (a' := j + 1) hjs)
                have HB3 := Lib.hid (grown_trans (grown_row (grown_of HB2.out) (some bx)) (grown_set wz bx 1 (.int .i64 (j + 1 : Nat))))
                have ecast : ((j + 1 : Nat) : Int) = (j : Int) + 1 := rfl
                rw [ecast] at HV3 HB3
                clear ecast
                go_wp2_with fail
                go_ret
                rw [HX.out]
                exact ⟨retI HW6.out, ⟨j + 1, HV3.out, fun _ => rfl⟩, HB3.out⟩
            · subst hneg
              by_cases hm : 0 < m
              · have HX := Lib.hid (HXL.out (by omega))
                have hw5 := congrArg (Value.int .i64) HW5.out
                have hw6 := congrArg (Value.int .i64) HW6.out
                go_wp2_with fail
                go_quiet (fail)
                go_wp2_with fail
                have HV1 := Lib.hid (HV.out.drewN nq)
                have HB1 := Lib.hid (HB.out.trans ((below_drewN wr nq).mono HB.out.size))
                generalize wr.drewN nq = wq at *
                have h0' := HV1.out.str
                have h1' := HV1.out.at'
                go_quiet (fail)
                have HV2 := Lib.hid (HV1.out.drewN nq)
                have HB2 := Lib.hid (HB1.out.trans ((below_drewN wq nq).mono HB1.out.size))
                generalize wq.drewN nq = wz at *
                have h1z := HV2.out.at'
                have hfz := HV2.out.f1
                have HV3 := Lib.hid (HV2.out.setA (a' := j + 1) hjs)
                have HB3 := Lib.hid (grown_trans (grown_row (grown_of HB2.out) (some bx)) (grown_set wz bx 1 (.int .i64 (j + 1 : Nat))))
                have ecast : ((j + 1 : Nat) : Int) = (j : Int) + 1 := rfl
                rw [ecast] at HV3 HB3
                clear ecast
                go_wp2_with fail
                refine (wrong_c bx s (j + 1) 0 11 _ HV3.out).mono ?_
                rintro e w1 ⟨rfl, hr, hg⟩
                have HR1 := Lib.hid hr
                have HG := Lib.hid (grown_trans HB3.out hg)
                clear hr hg
                go_wp2_with fail
                go_ret
                rw [HX.out]
                exact ⟨rfl, ⟨j + 1, HR1.out, fun h => by cases h⟩, HG.out⟩
              · have HX := Lib.hid (HXR.out (by omega))
                have hw5 := congrArg (Value.int .i64) HW5.out
                have hw6 := congrArg (Value.int .i64) HW6.out
                go_wp2_with fail
                go_quiet (fail)
                go_wp2_with fail
                have HV1 := Lib.hid (HV.out.drewN nq)
                have HB1 := Lib.hid (HB.out.trans ((below_drewN wr nq).mono HB.out.size))
                generalize wr.drewN nq = wq at *
                have h0' := HV1.out.str
                have h1' := HV1.out.at'
                go_quiet (fail)
                have HV2 := Lib.hid (HV1.out.drewN nq)
                have HB2 := Lib.hid (HB1.out.trans ((below_drewN wq nq).mono HB1.out.size))
                generalize wq.drewN nq = wz at *
                have h1z := HV2.out.at'
                have hfz := HV2.out.f1
                have HV3 := Lib.hid (HV2.out.setA (a' := j + 1) hjs)
                have HB3 := Lib.hid (grown_trans (grown_row (grown_of HB2.out) (some bx)) (grown_set wz bx 1 (.int .i64 (j + 1 : Nat))))
                have ecast : ((j + 1 : Nat) : Int) = (j : Int) + 1 := rfl
                rw [ecast] at HV3 HB3
                clear ecast
                go_wp2_with fail
                go_ret
                rw [HX.out]
                exact ⟨retI HW6.out, ⟨j + 1, HV3.out, fun _ => rfl⟩, HB3.out⟩
            · skip
              by_cases hm : most < (m : Int)
              · have HX := Lib.hid (HXL.out (by omega))
                have hw5 := congrArg (Value.int .i64) HW5.out
                have hw6 := congrArg (Value.int .i64) HW6.out
                go_wp2_with fail
                go_quiet (fail)
                go_wp2_with fail
                have HV1 := Lib.hid (HV.out.drewN nq)
                have HB1 := Lib.hid (HB.out.trans ((below_drewN wr nq).mono HB.out.size))
                generalize wr.drewN nq = wq at *
                have h0' := HV1.out.str
                have h1' := HV1.out.at'
                go_quiet (fail)
                have HV2 := Lib.hid (HV1.out.drewN nq)
                have HB2 := Lib.hid (HB1.out.trans ((below_drewN wq nq).mono HB1.out.size))
                generalize wq.drewN nq = wz at *
                have h1z := HV2.out.at'
                have hfz := HV2.out.f1
                have HV3 := Lib.hid (HV2.out.setA (a' := j + 1) hjs)
                have HB3 := Lib.hid (grown_trans (grown_row (grown_of HB2.out) (some bx)) (grown_set wz bx 1 (.int .i64 (j + 1 : Nat))))
                have ecast : ((j + 1 : Nat) : Int) = (j : Int) + 1 := rfl
                rw [ecast] at HV3 HB3
                clear ecast
                go_wp2_with fail
                refine (wrong_c bx s (j + 1) 0 11 _ HV3.out).mono ?_
                rintro e w1 ⟨rfl, hr, hg⟩
                have HR1 := Lib.hid hr
                have HG := Lib.hid (grown_trans HB3.out hg)
                clear hr hg
                go_wp2_with fail
                go_ret
                rw [HX.out]
                exact ⟨rfl, ⟨j + 1, HR1.out, fun h => by cases h⟩, HG.out⟩
              · have HX := Lib.hid (HXR.out (by omega))
                have hw5 := congrArg (Value.int .i64) HW5.out
                have hw6 := congrArg (Value.int .i64) HW6.out
                go_wp2_with fail
                go_quiet (fail)
                go_wp2_with fail
                have HV1 := Lib.hid (HV.out.drewN nq)
                have HB1 := Lib.hid (HB.out.trans ((below_drewN wr nq).mono HB.out.size))
                generalize wr.drewN nq = wq at *
                have h0' := HV1.out.str
                have h1' := HV1.out.at'
                go_quiet (fail)
                have HV2 := Lib.hid (HV1.out.drewN nq)
                have HB2 := Lib.hid (HB1.out.trans ((below_drewN wq nq).mono HB1.out.size))
                generalize wq.drewN nq = wz at *
                have h1z := HV2.out.at'
                have hfz := HV2.out.f1
                have HV3 := Lib.hid (HV2.out.setA (a' := j + 1) hjs)
                have HB3 := Lib.hid (grown_trans (grown_row (grown_of HB2.out) (some bx)) (grown_set wz bx 1 (.int .i64 (j + 1 : Nat))))
                have ecast : ((j + 1 : Nat) : Int) = (j : Int) + 1 := rfl
                rw [ecast] at HV3 HB3
                clear ecast
                go_wp2_with fail
                go_ret
                rw [HX.out]
                exact ⟨retI HW6.out, ⟨j + 1, HV3.out, fun _ => rfl⟩, HB3.out⟩
          · clear hz
            by_cases h8 : k = 8
            · have g8 : ((k : Int) + 1 == 9) = true := by rw [beq_iff_eq]; omega
              have hw9 : IntKind.i64.wrap ((a : Int) + 9) = (j : Int) + 1 := by rw [IntWalk.i64_in _ (by omega)]; have := HJ.out; omega
              have HW9 := Lib.hid hw9
              clear h8 hw9
              rcases Int.lt_trichotomy most 0 with hneg | hneg | hneg
              · skip
                by_cases hm : 0 < m
                · have HX := Lib.hid (HXL.out (by omega))
                  have hw9 := HW9.out
                  have hw5 := congrArg (Value.int .i64) HW5.out
                  have hw6 := congrArg (Value.int .i64) HW6.out
                  go_wp2_with fail
                  go_quiet (fail)
                  go_wp2_with fail
                  have HV1 := Lib.hid (HV.out.drewN nq)
                  have HB1 := Lib.hid (HB.out.trans ((below_drewN wr nq).mono HB.out.size))
                  generalize wr.drewN nq = wq at *
                  have h0' := HV1.out.str
                  have h1' := HV1.out.at'
                  go_quiet (fail)
                  have HV2 := Lib.hid (HV1.out.drewN nq)
                  have HB2 := Lib.hid (HB1.out.trans ((below_drewN wq nq).mono HB1.out.size))
                  generalize wq.drewN nq = wz at *
                  have h1z := HV2.out.at'
                  have hfz := HV2.out.f1
                  have HV3 := Lib.hid (HV2.out.setA (a' := j + 1) hjs)
                  have HB3 := Lib.hid (grown_trans (grown_row (grown_of HB2.out) (some bx)) (grown_set wz bx 1 (.int .i64 (j + 1 : Nat))))
                  have ecast : ((j + 1 : Nat) : Int) = (j : Int) + 1 := rfl
                  rw [ecast] at HV3 HB3
                  clear ecast
                  go_wp2_with fail
                  refine (wrong_c bx s (j + 1) 0 11 _ HV3.out).mono ?_
                  rintro e w1 ⟨rfl, hr, hg⟩
                  have HR1 := Lib.hid hr
                  have HG := Lib.hid (grown_trans HB3.out hg)
                  clear hr hg
                  go_wp2_with fail
                  go_ret
                  rw [HX.out]
                  exact ⟨rfl, ⟨j + 1, HR1.out, fun h => by cases h⟩, HG.out⟩
                · have HX := Lib.hid (HXR.out (by omega))
                  have hw9 := HW9.out
                  have hw5 := congrArg (Value.int .i64) HW5.out
                  have hw6 := congrArg (Value.int .i64) HW6.out
                  go_wp2_with fail
                  go_quiet (fail)
                  go_wp2_with fail
                  have HV1 := Lib.hid (HV.out.drewN nq)
                  have HB1 := Lib.hid (HB.out.trans ((below_drewN wr nq).mono HB.out.size))
                  generalize wr.drewN nq = wq at *
                  have h0' := HV1.out.str
                  have h1' := HV1.out.at'
                  go_quiet (fail)
                  have HV2 := Lib.hid (HV1.out.drewN nq)
                  have HB2 := Lib.hid (HB1.out.trans ((below_drewN wq nq).mono HB1.out.size))
                  generalize wq.drewN nq = wz at *
                  have h1z := HV2.out.at'
                  have hfz := HV2.out.f1
                  have HV3 := Lib.hid (HV2.out.setA (a' := j + 1) hjs)
                  have HB3 := Lib.hid (grown_trans (grown_row (grown_of HB2.out) (some bx)) (grown_set wz bx 1 (.int .i64 (j + 1 : Nat))))
                  have ecast : ((j + 1 : Nat) : Int) = (j : Int) + 1 := rfl
                  rw [ecast] at HV3 HB3
                  clear ecast
                  go_wp2_with fail
                  go_ret
                  rw [HX.out]
                  exact ⟨retI HW6.out, ⟨j + 1, HV3.out, fun _ => rfl⟩, HB3.out⟩
              · subst hneg
                by_cases hm : 0 < m
                · have HX := Lib.hid (HXL.out (by omega))
                  have hw9 := HW9.out
                  have hw5 := congrArg (Value.int .i64) HW5.out
                  have hw6 := congrArg (Value.int .i64) HW6.out
                  go_wp2_with fail
                  go_quiet (fail)
                  go_wp2_with fail
                  have HV1 := Lib.hid (HV.out.drewN nq)
                  have HB1 := Lib.hid (HB.out.trans ((below_drewN wr nq).mono HB.out.size))
                  generalize wr.drewN nq = wq at *
                  have h0' := HV1.out.str
                  have h1' := HV1.out.at'
                  go_quiet (fail)
                  have HV2 := Lib.hid (HV1.out.drewN nq)
                  have HB2 := Lib.hid (HB1.out.trans ((below_drewN wq nq).mono HB1.out.size))
                  generalize wq.drewN nq = wz at *
                  have h1z := HV2.out.at'
                  have hfz := HV2.out.f1
                  have HV3 := Lib.hid (HV2.out.setA (a' := j + 1) hjs)
                  have HB3 := Lib.hid (grown_trans (grown_row (grown_of HB2.out) (some bx)) (grown_set wz bx 1 (.int .i64 (j + 1 : Nat))))
                  have ecast : ((j + 1 : Nat) : Int) = (j : Int) + 1 := rfl
                  rw [ecast] at HV3 HB3
                  clear ecast
                  go_wp2_with fail
                  refine (wrong_c bx s (j + 1) 0 11 _ HV3.out).mono ?_
                  rintro e w1 ⟨rfl, hr, hg⟩
                  have HR1 := Lib.hid hr
                  have HG := Lib.hid (grown_trans HB3.out hg)
                  clear hr hg
                  go_wp2_with fail
                  go_ret
                  rw [HX.out]
                  exact ⟨rfl, ⟨j + 1, HR1.out, fun h => by cases h⟩, HG.out⟩
                · have HX := Lib.hid (HXR.out (by omega))
                  have hw9 := HW9.out
                  have hw5 := congrArg (Value.int .i64) HW5.out
                  have hw6 := congrArg (Value.int .i64) HW6.out
                  go_wp2_with fail
                  go_quiet (fail)
                  go_wp2_with fail
                  have HV1 := Lib.hid (HV.out.drewN nq)
                  have HB1 := Lib.hid (HB.out.trans ((below_drewN wr nq).mono HB.out.size))
                  generalize wr.drewN nq = wq at *
                  have h0' := HV1.out.str
                  have h1' := HV1.out.at'
                  go_quiet (fail)
                  have HV2 := Lib.hid (HV1.out.drewN nq)
                  have HB2 := Lib.hid (HB1.out.trans ((below_drewN wq nq).mono HB1.out.size))
                  generalize wq.drewN nq = wz at *
                  have h1z := HV2.out.at'
                  have hfz := HV2.out.f1
                  have HV3 := Lib.hid (HV2.out.setA (a' := j + 1) hjs)
                  have HB3 := Lib.hid (grown_trans (grown_row (grown_of HB2.out) (some bx)) (grown_set wz bx 1 (.int .i64 (j + 1 : Nat))))
                  have ecast : ((j + 1 : Nat) : Int) = (j : Int) + 1 := rfl
                  rw [ecast] at HV3 HB3
                  clear ecast
                  go_wp2_with fail
                  go_ret
                  rw [HX.out]
                  exact ⟨retI HW6.out, ⟨j + 1, HV3.out, fun _ => rfl⟩, HB3.out⟩
              · skip
                by_cases hm : most < (m : Int)
                · have HX := Lib.hid (HXL.out (by omega))
                  have hw9 := HW9.out
                  have hw5 := congrArg (Value.int .i64) HW5.out
                  have hw6 := congrArg (Value.int .i64) HW6.out
                  go_wp2_with fail
                  go_quiet (fail)
                  go_wp2_with fail
                  have HV1 := Lib.hid (HV.out.drewN nq)
                  have HB1 := Lib.hid (HB.out.trans ((below_drewN wr nq).mono HB.out.size))
                  generalize wr.drewN nq = wq at *
                  have h0' := HV1.out.str
                  have h1' := HV1.out.at'
                  go_quiet (fail)
                  have HV2 := Lib.hid (HV1.out.drewN nq)
                  have HB2 := Lib.hid (HB1.out.trans ((below_drewN wq nq).mono HB1.out.size))
                  generalize wq.drewN nq = wz at *
                  have h1z := HV2.out.at'
                  have hfz := HV2.out.f1
                  have HV3 := Lib.hid (HV2.out.setA (a' := j + 1) hjs)
                  have HB3 := Lib.hid (grown_trans (grown_row (grown_of HB2.out) (some bx)) (grown_set wz bx 1 (.int .i64 (j + 1 : Nat))))
                  have ecast : ((j + 1 : Nat) : Int) = (j : Int) + 1 := rfl
                  rw [ecast] at HV3 HB3
                  clear ecast
                  go_wp2_with fail
                  refine (wrong_c bx s (j + 1) 0 11 _ HV3.out).mono ?_
                  rintro e w1 ⟨rfl, hr, hg⟩
                  have HR1 := Lib.hid hr
                  have HG := Lib.hid (grown_trans HB3.out hg)
                  clear hr hg
                  go_wp2_with fail
                  go_ret
                  rw [HX.out]
                  exact ⟨rfl, ⟨j + 1, HR1.out, fun h => by cases h⟩, HG.out⟩
                · have HX := Lib.hid (HXR.out (by omega))
                  have hw9 := HW9.out
                  have hw5 := congrArg (Value.int .i64) HW5.out
                  have hw6 := congrArg (Value.int .i64) HW6.out
                  go_wp2_with fail
                  go_quiet (fail)
                  go_wp2_with fail
                  have HV1 := Lib.hid (HV.out.drewN nq)
                  have HB1 := Lib.hid (HB.out.trans ((below_drewN wr nq).mono HB.out.size))
                  generalize wr.drewN nq = wq at *
                  have h0' := HV1.out.str
                  have h1' := HV1.out.at'
                  go_quiet (fail)
                  have HV2 := Lib.hid (HV1.out.drewN nq)
                  have HB2 := Lib.hid (HB1.out.trans ((below_drewN wq nq).mono HB1.out.size))
                  generalize wq.drewN nq = wz at *
                  have h1z := HV2.out.at'
                  have hfz := HV2.out.f1
                  have HV3 := Lib.hid (HV2.out.setA (a' := j + 1) hjs)
                  have HB3 := Lib.hid (grown_trans (grown_row (grown_of HB2.out) (some bx)) (grown_set wz bx 1 (.int .i64 (j + 1 : Nat))))
                  have ecast : ((j + 1 : Nat) : Int) = (j : Int) + 1 := rfl
                  rw [ecast] at HV3 HB3
                  clear ecast
                  go_wp2_with fail
                  go_ret
                  rw [HX.out]
                  exact ⟨retI HW6.out, ⟨j + 1, HV3.out, fun _ => rfl⟩, HB3.out⟩
            · have g8 : ((k : Int) + 1 == 9) = false := by rw [beq_eq_false_iff_ne]; omega
              clear h8
              rcases Int.lt_trichotomy most 0 with hneg | hneg | hneg
              · skip
                by_cases hm : 0 < m
                · have HX := Lib.hid (HXL.out (by omega))
                  have hw5 := congrArg (Value.int .i64) HW5.out
                  have hw6 := congrArg (Value.int .i64) HW6.out
                  go_wp2_with fail
                  go_quiet (fail)
                  go_wp2_with fail
                  have HV1 := Lib.hid (HV.out.drewN nq)
                  have HB1 := Lib.hid (HB.out.trans ((below_drewN wr nq).mono HB.out.size))
                  generalize wr.drewN nq = wq at *
                  have h0' := HV1.out.str
                  have h1' := HV1.out.at'
                  go_quiet (fail)
                  have HV2 := Lib.hid (HV1.out.drewN nq)
                  have HB2 := Lib.hid (HB1.out.trans ((below_drewN wq nq).mono HB1.out.size))
                  generalize wq.drewN nq = wz at *
                  have h1z := HV2.out.at'
                  have hfz := HV2.out.f1
                  have HV3 := Lib.hid (HV2.out.setA (a' := j + 1) hjs)
                  have HB3 := Lib.hid (grown_trans (grown_row (grown_of HB2.out) (some bx)) (grown_set wz bx 1 (.int .i64 (j + 1 : Nat))))
                  have ecast : ((j + 1 : Nat) : Int) = (j : Int) + 1 := rfl
                  rw [ecast] at HV3 HB3
                  clear ecast
                  go_wp2_with fail
                  refine (wrong_c bx s (j + 1) 0 11 _ HV3.out).mono ?_
                  rintro e w1 ⟨rfl, hr, hg⟩
                  have HR1 := Lib.hid hr
                  have HG := Lib.hid (grown_trans HB3.out hg)
                  clear hr hg
                  go_wp2_with fail
                  go_ret
                  rw [HX.out]
                  exact ⟨rfl, ⟨j + 1, HR1.out, fun h => by cases h⟩, HG.out⟩
                · have HX := Lib.hid (HXR.out (by omega))
                  have hw5 := congrArg (Value.int .i64) HW5.out
                  have hw6 := congrArg (Value.int .i64) HW6.out
                  go_wp2_with fail
                  go_quiet (fail)
                  go_wp2_with fail
                  have HV1 := Lib.hid (HV.out.drewN nq)
                  have HB1 := Lib.hid (HB.out.trans ((below_drewN wr nq).mono HB.out.size))
                  generalize wr.drewN nq = wq at *
                  have h0' := HV1.out.str
                  have h1' := HV1.out.at'
                  go_quiet (fail)
                  have HV2 := Lib.hid (HV1.out.drewN nq)
                  have HB2 := Lib.hid (HB1.out.trans ((below_drewN wq nq).mono HB1.out.size))
                  generalize wq.drewN nq = wz at *
                  have h1z := HV2.out.at'
                  have hfz := HV2.out.f1
                  have HV3 := Lib.hid (HV2.out.setA (a' := j + 1) hjs)
                  have HB3 := Lib.hid (grown_trans (grown_row (grown_of HB2.out) (some bx)) (grown_set wz bx 1 (.int .i64 (j + 1 : Nat))))
                  have ecast : ((j + 1 : Nat) : Int) = (j : Int) + 1 := rfl
                  rw [ecast] at HV3 HB3
                  clear ecast
                  go_wp2_with fail
                  go_ret
                  rw [HX.out]
                  exact ⟨retI HW6.out, ⟨j + 1, HV3.out, fun _ => rfl⟩, HB3.out⟩
              · subst hneg
                by_cases hm : 0 < m
                · have HX := Lib.hid (HXL.out (by omega))
                  have hw5 := congrArg (Value.int .i64) HW5.out
                  have hw6 := congrArg (Value.int .i64) HW6.out
                  go_wp2_with fail
                  go_quiet (fail)
                  go_wp2_with fail
                  have HV1 := Lib.hid (HV.out.drewN nq)
                  have HB1 := Lib.hid (HB.out.trans ((below_drewN wr nq).mono HB.out.size))
                  generalize wr.drewN nq = wq at *
                  have h0' := HV1.out.str
                  have h1' := HV1.out.at'
                  go_quiet (fail)
                  have HV2 := Lib.hid (HV1.out.drewN nq)
                  have HB2 := Lib.hid (HB1.out.trans ((below_drewN wq nq).mono HB1.out.size))
                  generalize wq.drewN nq = wz at *
                  have h1z := HV2.out.at'
                  have hfz := HV2.out.f1
                  have HV3 := Lib.hid (HV2.out.setA (a' := j + 1) hjs)
                  have HB3 := Lib.hid (grown_trans (grown_row (grown_of HB2.out) (some bx)) (grown_set wz bx 1 (.int .i64 (j + 1 : Nat))))
                  have ecast : ((j + 1 : Nat) : Int) = (j : Int) + 1 := rfl
                  rw [ecast] at HV3 HB3
                  clear ecast
                  go_wp2_with fail
                  refine (wrong_c bx s (j + 1) 0 11 _ HV3.out).mono ?_
                  rintro e w1 ⟨rfl, hr, hg⟩
                  have HR1 := Lib.hid hr
                  have HG := Lib.hid (grown_trans HB3.out hg)
                  clear hr hg
                  go_wp2_with fail
                  go_ret
                  rw [HX.out]
                  exact ⟨rfl, ⟨j + 1, HR1.out, fun h => by cases h⟩, HG.out⟩
                · have HX := Lib.hid (HXR.out (by omega))
                  have hw5 := congrArg (Value.int .i64) HW5.out
                  have hw6 := congrArg (Value.int .i64) HW6.out
                  go_wp2_with fail
                  go_quiet (fail)
                  go_wp2_with fail
                  have HV1 := Lib.hid (HV.out.drewN nq)
                  have HB1 := Lib.hid (HB.out.trans ((below_drewN wr nq).mono HB.out.size))
                  generalize wr.drewN nq = wq at *
                  have h0' := HV1.out.str
                  have h1' := HV1.out.at'
                  go_quiet (fail)
                  have HV2 := Lib.hid (HV1.out.drewN nq)
                  have HB2 := Lib.hid (HB1.out.trans ((below_drewN wq nq).mono HB1.out.size))
                  generalize wq.drewN nq = wz at *
                  have h1z := HV2.out.at'
                  have hfz := HV2.out.f1
                  have HV3 := Lib.hid (HV2.out.setA (a' := j + 1) hjs)
                  have HB3 := Lib.hid (grown_trans (grown_row (grown_of HB2.out) (some bx)) (grown_set wz bx 1 (.int .i64 (j + 1 : Nat))))
                  have ecast : ((j + 1 : Nat) : Int) = (j : Int) + 1 := rfl
                  rw [ecast] at HV3 HB3
                  clear ecast
                  go_wp2_with fail
                  go_ret
                  rw [HX.out]
                  exact ⟨retI HW6.out, ⟨j + 1, HV3.out, fun _ => rfl⟩, HB3.out⟩
              · skip
                by_cases hm : most < (m : Int)
                · have HX := Lib.hid (HXL.out (by omega))
                  have hw5 := congrArg (Value.int .i64) HW5.out
                  have hw6 := congrArg (Value.int .i64) HW6.out
                  go_wp2_with fail
                  go_quiet (fail)
                  go_wp2_with fail
                  have HV1 := Lib.hid (HV.out.drewN nq)
                  have HB1 := Lib.hid (HB.out.trans ((below_drewN wr nq).mono HB.out.size))
                  generalize wr.drewN nq = wq at *
                  have h0' := HV1.out.str
                  have h1' := HV1.out.at'
                  go_quiet (fail)
                  have HV2 := Lib.hid (HV1.out.drewN nq)
                  have HB2 := Lib.hid (HB1.out.trans ((below_drewN wq nq).mono HB1.out.size))
                  generalize wq.drewN nq = wz at *
                  have h1z := HV2.out.at'
                  have hfz := HV2.out.f1
                  have HV3 := Lib.hid (HV2.out.setA (a' := j + 1) hjs)
                  have HB3 := Lib.hid (grown_trans (grown_row (grown_of HB2.out) (some bx)) (grown_set wz bx 1 (.int .i64 (j + 1 : Nat))))
                  have ecast : ((j + 1 : Nat) : Int) = (j : Int) + 1 := rfl
                  rw [ecast] at HV3 HB3
                  clear ecast
                  go_wp2_with fail
                  refine (wrong_c bx s (j + 1) 0 11 _ HV3.out).mono ?_
                  rintro e w1 ⟨rfl, hr, hg⟩
                  have HR1 := Lib.hid hr
                  have HG := Lib.hid (grown_trans HB3.out hg)
                  clear hr hg
                  go_wp2_with fail
                  go_ret
                  rw [HX.out]
                  exact ⟨rfl, ⟨j + 1, HR1.out, fun h => by cases h⟩, HG.out⟩
                · have HX := Lib.hid (HXR.out (by omega))
                  have hw5 := congrArg (Value.int .i64) HW5.out
                  have hw6 := congrArg (Value.int .i64) HW6.out
                  go_wp2_with fail
                  go_quiet (fail)
                  go_wp2_with fail
                  have HV1 := Lib.hid (HV.out.drewN nq)
                  have HB1 := Lib.hid (HB.out.trans ((below_drewN wr nq).mono HB.out.size))
                  generalize wr.drewN nq = wq at *
                  have h0' := HV1.out.str
                  have h1' := HV1.out.at'
                  go_quiet (fail)
                  have HV2 := Lib.hid (HV1.out.drewN nq)
                  have HB2 := Lib.hid (HB1.out.trans ((below_drewN wq nq).mono HB1.out.size))
                  generalize wq.drewN nq = wz at *
                  have h1z := HV2.out.at'
                  have hfz := HV2.out.f1
                  have HV3 := Lib.hid (HV2.out.setA (a' := j + 1) hjs)
                  have HB3 := Lib.hid (grown_trans (grown_row (grown_of HB2.out) (some bx)) (grown_set wz bx 1 (.int .i64 (j + 1 : Nat))))
                  have ecast : ((j + 1 : Nat) : Int) = (j : Int) + 1 := rfl
                  rw [ecast] at HV3 HB3
                  clear ecast
                  go_wp2_with fail
                  go_ret
                  rw [HX.out]
                  exact ⟨retI HW6.out, ⟨j + 1, HV3.out, fun _ => rfl⟩, HB3.out⟩
    · have HO : Hid (numOut (dropS s a) most = (0, ⟨#[]⟩, 10)) := by
        have hd : s.data.toList.drop (a + k) = [] := List.drop_eq_nil_of_le (by simpa using Nat.le_of_not_lt hsh)
        unfold Hid numOut; rw [dropS_list, HR.out, HF.out, hd, rd_short]; rfl
      generalize 128 ^ k = u at *
      go_wp2_with fail
      go_quiet (fail)
      go_wp2_with fail
      refine (wrong_c bx s a 0 10 _ (HV.out.drewN nq)).mono ?_
      rintro e w1 ⟨rfl, hr, hg⟩
      have HR1 := Lib.hid hr
      have HG := Lib.hid (grown_trans (grown_row (grown_of (HB.out.trans ((below_drewN wr nq).mono HB.out.size))) _) hg)
      clear hr hg
      go_wp2_with fail
      go_ret
      rw [HO.out]
      exact ⟨rfl, ⟨a, HR1.out, fun h => by cases h⟩, HG.out⟩
end Go.Proofs.Ytpmhcpphbilokaa
