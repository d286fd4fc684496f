/- Statuses: the reference's walks. -/
import Derived.Test.YtpmhcpphbilokaaClogT
import Derived.Test.YtpmhcpphbilokaaClogN
namespace Go.Proofs.Ytpmhcpphbilokaa
open Go.RowKit
set_option linter.unusedSimpArgs false
set_option maxRecDepth 100000

theorem StIn.of {w : World} {g : Nat} {f : Nat → Nat} {n : Nat} (hf : ∀ i, f i ≤ 3) (h : BV w g (stL f n)) : StIn w (some ⟨g, 0, none⟩) n f := fun i hi => by
  have hj : i < (stL f n).length := by rw [stL_len]; exact hi
  have hc := h.cell i hj
  rw [stL_get hf] at hc
  exact ⟨g, rfl, hc⟩
theorem okm_le {m : Int} (hm : okm m = true) : m.toNat ≤ 4 * sz m := by
  have := sz_int hm; have := okm_bd hm; omega

set_option maxHeartbeats 2000000 in
theorem rblank_c (m x : Int) (w : World) :
    Calls Try.prog 9 #[.int .i64 m, .int .i64 x] w fun e w' => POut w (blV m x) e w' := by
  obtain ⟨wb, hwb⟩ : ∃ wb, wb = w.alloc (.cells #[.int .i64 0, .int .i64 0, .int .i64 0, .int .i64 0, .string ⟨#[]⟩, .slice none 0 0] 25) := ⟨_, rfl⟩
  obtain ⟨br, hbr⟩ : ∃ br, br = w.heap.size := ⟨_, rfl⟩
  have HRB : Hid (IsPg wb br) := by rw [hwb, hbr]; exact (PK.new w 0 0 0 0 _ _).is
  have HB : Hid (Below w.heap.size w wb) := by rw [hwb]; exact (Below.refl _ w).alloc (Nat.le_refl _) _
  have HN : Hid (w.heap.size ≤ br) := by rw [hbr]; exact Nat.le_refl _
  have HWB := Lib.hid hwb
  have HBR := Lib.hid hbr
  clear hwb hbr
  go_enter Try.func9, Try.ntmps9
  go_wp2_with fail
  rw [← HWB.out, ← HBR.out]
  clear HWB HBR
  refine (right_c m wb).mono ?_
  rintro e w1 ⟨rfl, rfl⟩
  have hip := HRB.out
  cases hm : okm m
  · have HV : Hid (blV m x = (1, 0, 0, [])) := by unfold Hid blV; rw [hm]; rfl
    go_wp2_with (refine wpList_st_page rfl _ _ rfl br rfl _ _ _ _ _ _ rfl rfl hip ?_)
    refine ret_cell rfl br _ _ _ _ rfl (hip.set6 _ _ _ _ _ _) Try.underlying25 rfl (by kernel_rfl) rfl ?_
    rw [HV.out]
    exact pOut_bad (by decide) (below_own HB.out HN.out (setP_grown _ _ _ _ _ _ _ _))
  · by_cases h1 : x < 1
    · have HV : Hid (blV m x = (1, 0, 0, [])) := by unfold Hid blV; rw [hm, okx_no (.inl h1)]; rfl
      have d1 : decide (x < 1) = true := decide_eq_true h1
      go_wp2_with (refine wpList_st_page rfl _ _ rfl br rfl _ _ _ _ _ _ rfl rfl hip ?_)
      refine ret_cell rfl br _ _ _ _ rfl (hip.set6 _ _ _ _ _ _) Try.underlying25 rfl (by kernel_rfl) rfl ?_
      rw [HV.out]
      exact pOut_bad (by decide) (below_own HB.out HN.out (setP_grown _ _ _ _ _ _ _ _))
    · have d1 : decide (x < 1) = false := decide_eq_false h1
      by_cases h2 : m < x
      · have HV : Hid (blV m x = (1, 0, 0, [])) := by unfold Hid blV; rw [hm, okx_no (.inr h2)]; rfl
        have d2 : decide (m < x) = true := decide_eq_true h2
        clear h1 h2
        go_wp2_with (refine wpList_st_page rfl _ _ rfl br rfl _ _ _ _ _ _ rfl rfl hip ?_)
        refine ret_cell rfl br _ _ _ _ rfl (hip.set6 _ _ _ _ _ _) Try.underlying25 rfl (by kernel_rfl) rfl ?_
        rw [HV.out]
        exact pOut_bad (by decide) (below_own HB.out HN.out (setP_grown _ _ _ _ _ _ _ _))
      · have d2 : decide (m < x) = false := decide_eq_false h2
        have HV : Hid (blV m x = (0, 0, x, bsOf (fun _ => 0) (sz m))) := by unfold Hid blV; rw [hm, okx_yes (by omega) (by omega)]; rfl
        have HX : Hid (x ≤ 9223372036854775807) := by have := okm_bd hm; unfold Hid; omega
        have HZ := Lib.hid (sz_int hm)
        have HM := Lib.hid hm
        clear h1 h2 hm
        go_wp2_with fail
        refine (laid_c m x 0 none 0 0 (fun _ => 0) wb HM.out HX.out (okf_zero 0) (Nat.zero_le _) (fun i hi => by omega)).mono ?_
        rintro e w5 ⟨⟨q, rfl, hq, hge⟩, hb5⟩
        have HB5 := Lib.hid (HB.out.trans (hb5.mono HB.out.size))
        have hip5 := HRB.out.grown (grown_of hb5) (by simp)
        have HNE : Hid (some q ≠ some br) := by have := HRB.out.lt; unfold Hid; intro e; injection e with e; omega
        have HQ := Lib.hid hq
        clear hb5 hge hq hip
        unfold pgV
        go_wp2_with (refine wpList_st_page rfl _ _ rfl br rfl _ _ _ _ _ _ rfl rfl hip5 ?_)
        refine ret_cell rfl br _ _ _ _ rfl (hip5.set6 _ _ _ _ _ _) Try.underlying25 rfl (by kernel_rfl) rfl ?_
        rw [HV.out]
        exact pOut_ok (HQ.out.grown (setP_grown _ _ _ _ _ _ _ _) HNE.out) HX.out (by rw [bsOf_len]; have := HZ.out; omega) (below_own HB5.out HN.out (setP_grown _ _ _ _ _ _ _ _))

set_option maxHeartbeats 2000000 in
theorem rfrozen_c (m a0 a1 a2 a3 : Int) (h : ByteArray) (ao : Option Addr) (len cap : Nat) (S : Nat → ByteArray) (w : World) (hs : StrsIn w ao len S) :
    Calls Try.prog 19 #[.int .i64 m, .agg #[.int .i64 a0, .int .i64 a1, .int .i64 a2, .int .i64 a3, .string h, .slice ao len cap]] w fun e w' => e = .returned (.tuple #[.int .i64 (opV m a0 a1 a2 a3 h len S).2.1, .int .i64 (opV m a0 a1 a2 a3 h len S).1]) ∧ Below w.heap.size w w' := by
  obtain ⟨wb, hwb⟩ : ∃ wb, wb = w.alloc (.cells #[.int .i64 a0, .int .i64 a1, .int .i64 a2, .int .i64 a3, .string h, .slice ao len cap] 25) := ⟨_, rfl⟩
  obtain ⟨bt, hbt⟩ : ∃ bt, bt = w.heap.size := ⟨_, rfl⟩
  have H0 : Hid (PB w wb bt a0 a1 a2 a3 h ao len cap S) := by rw [hwb, hbt]; exact PB.new w a0 a1 a2 a3 h ao len cap S hs
  have HWB := Lib.hid hwb
  have HBT := Lib.hid hbt
  obtain ⟨o, ho⟩ : ∃ o, o = opV m a0 a1 a2 a3 h len S := ⟨_, rfl⟩
  rw [← ho]
  have CO := Lib.hid (fun w' (hh : StrsIn w' ao len S) => taken_c m a0 a1 a2 a3 h ao len cap S w' hh)
  rw [← ho] at CO
  clear hwb hbt hs ho
  go_enter Try.func19, Try.ntmps19
  have c := H0.out.cell
  rw [HWB.out, HBT.out] at c
  obtain ⟨c0, c1, c2, c3, c4, c5⟩ := c
  go_wp2_with fail
  clear c0 c1 c2 c3 c4 c5
  rw [← HWB.out, ← HBT.out]
  clear HWB HBT
  refine (CO.out _ H0.out.it).mono ?_
  clear CO
  rintro e w1 ⟨⟨v, rfl, hv⟩, hb⟩
  have HB1 := Lib.hid (H0.out.bel.trans (hb.mono H0.out.bel.size))
  clear hb hv H0
  obtain ⟨E, F, l⟩ := o
  go_wp2_with fail
  go_ret2
  exact ⟨rfl, HB1.out⟩

set_option maxHeartbeats 2000000 in
theorem rcheck_c (m a0 a1 a2 a3 : Int) (h : ByteArray) (ao : Option Addr) (len cap : Nat) (S : Nat → ByteArray) (w : World) (hs : StrsIn w ao len S) :
    Calls Try.prog 21 #[.int .i64 m, .agg #[.int .i64 a0, .int .i64 a1, .int .i64 a2, .int .i64 a3, .string h, .slice ao len cap]] w fun e w' => e = .returned (.int .i64 (opV m a0 a1 a2 a3 h len S).1) ∧ Below w.heap.size w w' := by
  obtain ⟨wb, hwb⟩ : ∃ wb, wb = w.alloc (.cells #[.int .i64 a0, .int .i64 a1, .int .i64 a2, .int .i64 a3, .string h, .slice ao len cap] 25) := ⟨_, rfl⟩
  obtain ⟨bt, hbt⟩ : ∃ bt, bt = w.heap.size := ⟨_, rfl⟩
  have H0 : Hid (PB w wb bt a0 a1 a2 a3 h ao len cap S) := by rw [hwb, hbt]; exact PB.new w a0 a1 a2 a3 h ao len cap S hs
  have HWB := Lib.hid hwb
  have HBT := Lib.hid hbt
  obtain ⟨o, ho⟩ : ∃ o, o = opV m a0 a1 a2 a3 h len S := ⟨_, rfl⟩
  rw [← ho]
  have CO := Lib.hid (fun w' (hh : StrsIn w' ao len S) => taken_c m a0 a1 a2 a3 h ao len cap S w' hh)
  rw [← ho] at CO
  clear hwb hbt hs ho
  go_enter Try.func21, Try.ntmps21
  have c := H0.out.cell
  rw [HWB.out, HBT.out] at c
  obtain ⟨c0, c1, c2, c3, c4, c5⟩ := c
  go_wp2_with fail
  clear c0 c1 c2 c3 c4 c5
  rw [← HWB.out, ← HBT.out]
  clear HWB HBT
  refine (CO.out _ H0.out.it).mono ?_
  clear CO
  rintro e w1 ⟨⟨v, rfl, hv⟩, hb⟩
  have HB1 := Lib.hid (H0.out.bel.trans (hb.mono H0.out.bel.size))
  clear hb hv H0
  obtain ⟨E, F, l⟩ := o
  go_wp2_with fail
  go_ret
  exact ⟨rfl, HB1.out⟩

set_option maxHeartbeats 4000000 in
theorem rset_c (m a0 a1 a2 a3 x s : Int) (h : ByteArray) (ao : Option Addr) (len cap : Nat) (S : Nat → ByteArray) (w : World) (hs : StrsIn w ao len S) (hs0 : 0 ≤ s) :
    Calls Try.prog 12 #[.int .i64 m, .agg #[.int .i64 a0, .int .i64 a1, .int .i64 a2, .int .i64 a3, .string h, .slice ao len cap], .int .i64 x, .int .u8 s] w fun e w' => POut w (setV m a0 x s (opV m a0 a1 a2 a3 h len S)) e w' := by
  obtain ⟨wb, hwb⟩ : ∃ wb, wb = w.alloc (.cells #[.int .i64 a0, .int .i64 a1, .int .i64 a2, .int .i64 a3, .string h, .slice ao len cap] 25) := ⟨_, rfl⟩
  obtain ⟨bt, hbt⟩ : ∃ bt, bt = w.heap.size := ⟨_, rfl⟩
  have H0 : Hid (PB w wb bt a0 a1 a2 a3 h ao len cap S) := by rw [hwb, hbt]; exact PB.new w a0 a1 a2 a3 h ao len cap S hs
  obtain ⟨wc, hwc⟩ : ∃ wc, wc = wb.alloc (.cells #[.int .i64 0, .int .i64 0, .int .i64 0, .int .i64 0, .string ⟨#[]⟩, .slice none 0 0] 25) := ⟨_, rfl⟩
  obtain ⟨br, hbr⟩ : ∃ br, br = wb.heap.size := ⟨_, rfl⟩
  have H1 : Hid (PB w wc bt a0 a1 a2 a3 h ao len cap S) := by rw [hwc]; exact H0.out.below ((Below.refl _ _).alloc (Nat.le_refl _) _)
  have HRB : Hid (IsPg wc br) := by rw [hwc, hbr]; exact (PK.new wb 0 0 0 0 _ _).is
  have HN : Hid (w.heap.size ≤ br ∧ bt < br) := by rw [hbr]; exact ⟨H0.out.bel.size, H0.out.tb.lt⟩
  have HWC := Lib.hid hwc
  have HBR : Hid (br = w.heap.size + 1) := by unfold Hid; rw [hbr, hwb]; simp
  have HWB := Lib.hid hwb
  have HBT := Lib.hid hbt
  obtain ⟨o, ho⟩ : ∃ o, o = opV m a0 a1 a2 a3 h len S := ⟨_, rfl⟩
  rw [← ho]
  have CO := Lib.hid (fun w' (hh : StrsIn w' ao len S) => taken_c m a0 a1 a2 a3 h ao len cap S w' hh)
  rw [← ho] at CO
  have HOK := Lib.hid (opV_ok ho)
  clear hwb hbt hs ho hwc hbr
  go_enter Try.func12, Try.ntmps12
  have c := H1.out.cell
  rw [HWC.out, HWB.out, HBT.out] at c
  obtain ⟨c0, c1, c2, c3, c4, c5⟩ := c
  go_wp2_with fail
  clear c0 c1 c2 c3 c4 c5
  rw [← HWB.out, ← HWC.out, ← HBR.out, ← HBT.out]
  clear HWB HBT HWC HBR H0
  refine (CO.out _ H1.out.it).mono ?_
  clear CO
  rintro e w1 ⟨⟨v, rfl, hv⟩, hb⟩
  have HP1 := Lib.hid (H1.out.tb.below hb)
  have HB1 := Lib.hid (H1.out.bel.trans (hb.mono H1.out.bel.size))
  have HR1 := Lib.hid (HRB.out.grown (grown_of hb) (by simp))
  have HV := Lib.hid hv
  have HLT : Hid (br < wc.heap.size) := HRB.out.lt
  clear hb hv H1 HRB
  obtain ⟨E, F, l⟩ := o
  simp only at HV HOK ⊢
  by_cases hE : E = 0
  · subst hE
    obtain ⟨g, cp, rfl, hge, hbv⟩ := HV.out rfl
    obtain ⟨hm, hF, hl, _, hok⟩ := HOK.out rfl
    (try simp only at hbv hl hF hok)
    have HMB := Lib.hid (okm_bd hm)
    have HM := Lib.hid hm
    have HKF := Lib.hid hok
    have HF : Hid (F ≤ 9223372036854775807) := by have := okx_bd hF; have := okm_bd hm; unfold Hid; omega
    have HO : Hid (OpS w w1 bt br g a0 a1 a2 a3 h (.slice ao len cap) (stL (stOf l) m.toNat)) := ⟨HP1.out, HR1.out, hbv, HB1.out, HN.out.1, by have := HLT.out; omega, by have := HLT.out; have := HN.out.2; omega⟩
    clear HV HOK hbv hl hm hF hge HLT HP1 HB1 HR1 hok
    have hip := HO.out.pg
    by_cases h1 : x < 1
    · have d1 : decide (x < 1) = true := decide_eq_true h1
      have HS : Hid (setV m a0 x s (0, F, l) = (1, 0, 0, [])) := by unfold Hid setV; rw [if_neg (by simp), if_neg (by rw [okx_no (.inl h1)]; simp)]
      go_wp2_with (refine wpList_st_page rfl _ _ rfl br rfl _ _ _ _ _ _ rfl rfl hip ?_)
      refine ret_cell rfl br _ _ _ _ rfl (hip.set6 _ _ _ _ _ _) Try.underlying25 rfl (by kernel_rfl) rfl ?_
      rw [HS.out]
      exact pOut_bad (by decide) (below_own HO.out.bel HN.out.1 (setP_grown _ _ _ _ _ _ _ _))
    · have d1 : decide (x < 1) = false := decide_eq_false h1
      by_cases h2 : m < x
      · have d2 : decide (m < x) = true := decide_eq_true h2
        have HS : Hid (setV m a0 x s (0, F, l) = (1, 0, 0, [])) := by unfold Hid setV; rw [if_neg (by simp), if_neg (by rw [okx_no (.inr h2)]; simp)]
        clear h1 h2
        go_wp2_with (refine wpList_st_page rfl _ _ rfl br rfl _ _ _ _ _ _ rfl rfl hip ?_)
        refine ret_cell rfl br _ _ _ _ rfl (hip.set6 _ _ _ _ _ _) Try.underlying25 rfl (by kernel_rfl) rfl ?_
        rw [HS.out]
        exact pOut_bad (by decide) (below_own HO.out.bel HN.out.1 (setP_grown _ _ _ _ _ _ _ _))
      · have d2 : decide (m < x) = false := decide_eq_false h2
        have hx : okx m x = true := okx_yes (by omega) (by omega)
        by_cases h3 : s ≤ 3
        · have HS : Hid (setV m a0 x s (0, F, l) = (0, a0, F, bsOf (upd (stOf l) (x - 1).toNat s.toNat) (sz m))) := by unfold Hid setV; rw [if_neg (by simp), if_pos ⟨hx, h3⟩]
          obtain ⟨X, rfl⟩ : ∃ X : Nat, x = (X : Int) + 1 := ⟨(x - 1).toNat, by omega⟩
          obtain ⟨T, rfl⟩ := Int.eq_ofNat_of_zero_le hs0
          have e1 : ((X : Int) + 1 - 1).toNat = X := by omega
          rw [e1] at HS
          have e2 : ((T : Int)).toNat = T := rfl
          rw [e2] at HS
          have h3' : decide ((3 : Int) < (T : Int)) = false := decide_eq_false (by omega)
          obtain ⟨M, hM⟩ : ∃ M, M = m.toNat := ⟨_, rfl⟩
          have hXM : X < M := by have := HMB.out; omega
          have HML : Hid (M ≤ 4 * sz m) := by rw [hM]; exact okm_le HM.out
          have HZ : Hid (sz m ≤ 256) := (sz_int HM.out).2.2
          have hX1024 : X ≤ 1024 := by have := HMB.out; omega
          rw [← hM] at HO HKF ⊢
          have hbc := HO.out.bv.cell X (by rw [stL_len]; exact hXM)
          rw [stL_get (stOf_le l)] at hbc
          have hbf := HO.out.bv.fr X (by rw [stL_len]; exact hXM)
          have HPUT : Hid (OpS w (w1.setCell ⟨g, X, none⟩ (.int .u8 T)) bt br g a0 a1 a2 a3 h (.slice ao len cap) (stL (upd (stOf l) X T) M)) := by
            refine HO.out.put ?_ (grown_set _ _ _ _)
            rw [stL_upd]
            refine HO.out.bv.set X _ _ ?_ (by rw [stL_len]; exact hXM)
            have : (UInt8.ofNat T).toNat = T := by show T % 256 = T; omega
            rw [this]
          have HKU : Hid (okf (upd (stOf l) X T) M) := upd_ok HKF.out hXM (by omega)
          have q5 := HPUT.out.tb.cell
          obtain ⟨c0, c1, c2, c3, c4, c5⟩ := q5
          clear h1 h2 h3 hx e1 e2 hM hip HO
          go_wp2_with fail
          clear c0 c1 c2 c3 c4 c5 hbc hbf
          generalize w1.setCell ⟨g, X, none⟩ (.int .u8 T) = w3 at *
          refine (laid_c m F a0 (some ⟨g, 0, none⟩) M cp (upd (stOf l) X T) w3 HM.out HF.out HKU.out HML.out (StIn.of HKU.out.le HPUT.out.bv)).mono ?_
          rintro e w5 ⟨⟨q, rfl, hq, hge⟩, hb5⟩
          have HO5 := Lib.hid (HPUT.out.below hb5)
          have hip := HO5.out.pg
          have HNE : Hid (some q ≠ some br) := by have := HPUT.out.pg.lt; unfold Hid; intro e; injection e with e; omega
          have HQ := Lib.hid hq
          clear hb5 hge hq HPUT
          unfold pgV
          go_wp2_with (refine wpList_st_page rfl _ _ rfl br rfl _ _ _ _ _ _ rfl rfl hip ?_)
          refine ret_cell rfl br _ _ _ _ rfl (hip.set6 _ _ _ _ _ _) Try.underlying25 rfl (by kernel_rfl) rfl ?_
          rw [HS.out]
          exact pOut_ok (HQ.out.grown (setP_grown _ _ _ _ _ _ _ _) HNE.out) HF.out (by rw [bsOf_len]; have := HZ.out; omega) (below_own HO5.out.bel HN.out.1 (setP_grown _ _ _ _ _ _ _ _))
        · have HS : Hid (setV m a0 x s (0, F, l) = (1, 0, 0, [])) := by unfold Hid setV; rw [if_neg (by simp), if_neg (fun q => h3 q.2)]
          have h3' : decide ((3 : Int) < s) = true := decide_eq_true (by omega)
          clear h1 h2 h3 hx
          go_wp2_with (refine wpList_st_page rfl _ _ rfl br rfl _ _ _ _ _ _ rfl rfl hip ?_)
          refine ret_cell rfl br _ _ _ _ rfl (hip.set6 _ _ _ _ _ _) Try.underlying25 rfl (by kernel_rfl) rfl ?_
          rw [HS.out]
          exact pOut_bad (by decide) (below_own HO.out.bel HN.out.1 (setP_grown _ _ _ _ _ _ _ _))
  · have hE1 : (E != 0) = true := by rw [bne_iff_ne]; exact hE
    have HS : Hid (setV m a0 x s (E, F, l) = (E, 0, 0, [])) := by unfold Hid setV; rw [if_pos hE]
    have hip := HR1.out
    clear HV HOK
    go_wp2_with (refine wpList_st_page rfl _ _ rfl br rfl _ _ _ _ _ _ rfl rfl hip ?_)
    refine ret_cell rfl br _ _ _ _ rfl (hip.set6 _ _ _ _ _ _) Try.underlying25 rfl (by kernel_rfl) rfl ?_
    rw [HS.out]
    exact pOut_bad hE (below_own HB1.out HN.out.1 (setP_grown _ _ _ _ _ _ _ _))
end Go.Proofs.Ytpmhcpphbilokaa
