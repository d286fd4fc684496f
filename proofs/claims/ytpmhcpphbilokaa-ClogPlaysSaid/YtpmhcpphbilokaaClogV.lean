/- Statuses: the reference's Get and Cut. -/
import Derived.Test.YtpmhcpphbilokaaClogU
namespace Go.Proofs.Ytpmhcpphbilokaa
open Go.RowKit
set_option linter.unusedSimpArgs false
set_option maxRecDepth 100000

set_option maxHeartbeats 2000000 in
theorem rget_c (m a0 a1 a2 a3 x : Int) (h : ByteArray) (ao : Option Addr) (len cap : Nat) (S : Nat → ByteArray) (w : World) (hs : StrsIn w ao len S) :
    Calls Try.prog 18 #[.int .i64 m, .agg #[.int .i64 a0, .int .i64 a1, .int .i64 a2, .int .i64 a3, .string h, .slice ao len cap], .int .i64 x] w fun e w' => e = .returned (.tuple #[.int .u8 (getV m x (opV m a0 a1 a2 a3 h len S)).1, .int .i64 (getV m x (opV m a0 a1 a2 a3 h len S)).2]) ∧ Below w.heap.size w w' := by
  obtain ⟨wb, hwb⟩ : ∃ wb, wb = w.alloc (.cells #[.int .i64 a0, .int .i64 a1, .int .i64 a2, .int .i64 a3, .string h, .slice ao len cap] 25) := ⟨_, rfl⟩
  obtain ⟨bt, hbt⟩ : ∃ bt, bt = w.heap.size := ⟨_, rfl⟩
  have H0 : Hid (PB w wb bt a0 a1 a2 a3 h ao len cap S) := by rw [hwb, hbt]; exact PB.new w a0 a1 a2 a3 h ao len cap S hs
  have HWB := Lib.hid hwb
  have HBT := Lib.hid hbt
  obtain ⟨o, ho⟩ : ∃ o, o = opV m a0 a1 a2 a3 h len S := ⟨_, rfl⟩
  rw [← ho]
  have CO := Lib.hid (fun w' (hh : StrsIn w' ao len S) => taken_c m a0 a1 a2 a3 h ao len cap S w' hh)
  rw [← ho] at CO
  have HOK := Lib.hid (opV_ok ho)
  clear hwb hbt hs ho
  go_enter Try.func18, Try.ntmps18
  have c := H0.out.cell
  rw [HWB.out, HBT.out] at c
  obtain ⟨c0, c1, c2, c3, c4, c5⟩ := c
  go_wp2_with fail
  clear c0 c1 c2 c3 c4 c5
  rw [← HWB.out, ← HBT.out]
  clear HWB HBT
  refine (CO.out _ H0.out.it).mono ?_
  clear CO
  rintro e w1 ⟨⟨v, rfl, hv⟩, hb⟩
  have HB1 := Lib.hid (H0.out.bel.trans (hb.mono H0.out.bel.size))
  have HV := Lib.hid hv
  clear hb hv H0
  obtain ⟨E, F, l⟩ := o
  simp only at HV ⊢
  by_cases hE : E = 0
  · subst hE
    obtain ⟨g, cp, rfl, _, hbv⟩ := HV.out rfl
    obtain ⟨hm, _, hl, _, _⟩ := HOK.out rfl
    have HBV := Lib.hid hbv
    have HMB := Lib.hid (okm_bd hm)
    clear HV HOK hbv hl hm
    by_cases h1 : x < 1
    · have d1 : decide (x < 1) = true := decide_eq_true h1
      have HG : Hid (getV m x (0, F, l) = (0, 1)) := by unfold Hid getV; rw [if_neg (by simp), if_pos (okx_no (.inl h1))]
      go_wp2_with fail
      go_ret2
      rw [HG.out]
      exact ⟨rfl, HB1.out⟩
    · have d1 : decide (x < 1) = false := decide_eq_false h1
      by_cases h2 : m < x
      · have d2 : decide (m < x) = true := decide_eq_true h2
        have HG : Hid (getV m x (0, F, l) = (0, 1)) := by unfold Hid getV; rw [if_neg (by simp), if_pos (okx_no (.inr h2))]
        clear h1 h2
        go_wp2_with fail
        go_ret2
        rw [HG.out]
        exact ⟨rfl, HB1.out⟩
      · have d2 : decide (m < x) = false := decide_eq_false h2
        have hx : okx m x = true := okx_yes (by omega) (by omega)
        have HG : Hid (getV m x (0, F, l) = (((stOf l (x - 1).toNat : Nat) : Int), (0 : Int))) := by unfold Hid getV; rw [if_neg (by simp), if_neg (by rw [hx]; simp)]
        obtain ⟨X, rfl⟩ : ∃ X : Nat, x = (X : Int) + 1 := ⟨(x - 1).toNat, by omega⟩
        have e1 : ((X : Int) + 1 - 1).toNat = X := by omega
        rw [e1] at HG
        obtain ⟨M, hM⟩ : ∃ M, M = m.toNat := ⟨_, rfl⟩
        have hXM : X < M := by have := HMB.out; omega
        have hX1024 : X ≤ 1024 := by have := HMB.out; omega
        rw [← hM] at HBV ⊢
        have hbc := HBV.out.cell X (by rw [stL_len]; exact hXM)
        rw [stL_get (stOf_le l)] at hbc
        clear h1 h2 hx e1 hM
        go_wp2_with fail
        go_ret2
        rw [HG.out]
        exact ⟨rfl, HB1.out⟩
  · have hE1 : (E != 0) = true := by rw [bne_iff_ne]; exact hE
    have HG : Hid (getV m x (E, F, l) = (0, E)) := by unfold Hid getV; rw [if_pos hE]
    clear HV HOK
    go_wp2_with fail
    go_ret2
    rw [HG.out]
    exact ⟨rfl, HB1.out⟩

theorem gap_left {m F L : Int} (hm : okm m = true) (hF : okx m F = true) (hL : okx m L = true) {k G : Nat} (hG : (G : Int) = xgap m F L) (hk : k ≤ G) : xgap m (xadd m F k) L = ((G - k : Nat) : Int) := by
  have hb := okm_bd hm
  have hx := xadd_bd hm hF (k : Int)
  have hg := (xadd_gap hm hF hL).2
  have e : xgap m F L = (L - F) % m := by unfold xgap; rw [hm, hF, hL]; rfl
  have e2 : xgap m (xadd m F k) L = (L - xadd m F k) % m := by unfold xgap; rw [hm, hL, okx_yes hx.1 hx.2]; rfl
  have h1 : (L - F) % m = G := by rw [← e, ← hG]
  rw [e2, xadd_eq hm hF]
  have h2 : (L - ((F - 1 + (k : Int)) % m + 1)) % m = ((L - F) - k) % m := by
    have : L - ((F - 1 + (k : Int)) % m + 1) = (L - 1) - (F - 1 + k) % m := by omega
    rw [this, Int.sub_emod, Int.emod_emod, ← Int.sub_emod]
    congr 1; omega
  have h3 : (k : Int) % m = k := Int.emod_eq_of_lt (by omega) (by omega)
  rw [h2, Int.sub_emod, h1, h3, Int.emod_eq_of_lt (by omega) (by omega)]
  omega

set_option maxHeartbeats 4000000 in
theorem rcut_c (m a0 a1 a2 a3 x : Int) (h : ByteArray) (ao : Option Addr) (len cap : Nat) (S : Nat → ByteArray) (w : World) (hs : StrsIn w ao len S) :
    Calls Try.prog 14 #[.int .i64 m, .agg #[.int .i64 a0, .int .i64 a1, .int .i64 a2, .int .i64 a3, .string h, .slice ao len cap], .int .i64 x] w fun e w' => POut w (cutV m a0 x (opV m a0 a1 a2 a3 h len S)) e w' := by
  obtain ⟨wb, hwb⟩ : ∃ wb, wb = w.alloc (.cells #[.int .i64 a0, .int .i64 a1, .int .i64 a2, .int .i64 a3, .string h, .slice ao len cap] 25) := ⟨_, rfl⟩
  obtain ⟨bt, hbt⟩ : ∃ bt, bt = w.heap.size := ⟨_, rfl⟩
  have H0 : Hid (PB w wb bt a0 a1 a2 a3 h ao len cap S) := by rw [hwb, hbt]; exact PB.new w a0 a1 a2 a3 h ao len cap S hs
  obtain ⟨wc, hwc⟩ : ∃ wc, wc = wb.alloc (.cells #[.int .i64 0, .int .i64 0, .int .i64 0, .int .i64 0, .string ⟨#[]⟩, .slice none 0 0] 25) := ⟨_, rfl⟩
  obtain ⟨br, hbr⟩ : ∃ br, br = wb.heap.size := ⟨_, rfl⟩
  have H1 : Hid (PB w wc bt a0 a1 a2 a3 h ao len cap S) := by rw [hwc]; exact H0.out.below ((Below.refl _ _).alloc (Nat.le_refl _) _)
  have HRB : Hid (IsPg wc br) := by rw [hwc, hbr]; exact (PK.new wb 0 0 0 0 _ _).is
  have HN : Hid (w.heap.size ≤ br ∧ bt < br) := by rw [hbr]; exact ⟨H0.out.bel.size, H0.out.tb.lt⟩
  have HWC := Lib.hid hwc
  have HBR : Hid (br = w.heap.size + 1) := by unfold Hid; rw [hbr, hwb]; simp
  have HWB := Lib.hid hwb
  have HBT := Lib.hid hbt
  obtain ⟨o, ho⟩ : ∃ o, o = opV m a0 a1 a2 a3 h len S := ⟨_, rfl⟩
  rw [← ho]
  have CO := Lib.hid (fun w' (hh : StrsIn w' ao len S) => taken_c m a0 a1 a2 a3 h ao len cap S w' hh)
  rw [← ho] at CO
  have HOK := Lib.hid (opV_ok ho)
  clear hwb hbt hs ho hwc hbr
  go_enter Try.func14, Try.ntmps14
  have c := H1.out.cell
  rw [HWC.out, HWB.out, HBT.out] at c
  obtain ⟨c0, c1, c2, c3, c4, c5⟩ := c
  go_wp2_with fail
  clear c0 c1 c2 c3 c4 c5
  rw [← HWB.out, ← HWC.out, ← HBR.out, ← HBT.out]
  clear HWB HBT HWC HBR H0
  refine (CO.out _ H1.out.it).mono ?_
  clear CO
  rintro e w1 ⟨⟨v, rfl, hv⟩, hb⟩
  have HP1 := Lib.hid (H1.out.tb.below hb)
  have HB1 := Lib.hid (H1.out.bel.trans (hb.mono H1.out.bel.size))
  have HR1 := Lib.hid (HRB.out.grown (grown_of hb) (by simp))
  have HV := Lib.hid hv
  have HLT : Hid (br < wc.heap.size) := HRB.out.lt
  clear hb hv H1 HRB
  obtain ⟨E, F, l⟩ := o
  simp only at HV HOK ⊢
  by_cases hE : E = 0
  · subst hE
    obtain ⟨g, cp, rfl, hge, hbv⟩ := HV.out rfl
    obtain ⟨hm, hF, hl, _, hok⟩ := HOK.out rfl
    (try simp only at hbv hl hF hok)
    have HMB := Lib.hid (okm_bd hm)
    have HM := Lib.hid hm
    have HKF := Lib.hid hok
    have HFX := Lib.hid hF
    have HO : Hid (OpS w w1 bt br g a0 a1 a2 a3 h (.slice ao len cap) (stL (stOf l) m.toNat)) := ⟨HP1.out, HR1.out, hbv, HB1.out, HN.out.1, by have := HLT.out; omega, by have := HLT.out; have := HN.out.2; omega⟩
    clear HV HOK hbv hl hm hF hge HLT HP1 HB1 HR1 hok
    have hip := HO.out.pg
    by_cases h1 : x < 1
    · have d1 : decide (x < 1) = true := decide_eq_true h1
      have HS : Hid (cutV m a0 x (0, F, l) = (1, 0, 0, [])) := by unfold Hid cutV; rw [if_neg (by simp), if_neg (by rw [okx_no (.inl h1)]; simp)]
      go_wp2_with (refine wpList_st_page rfl _ _ rfl br rfl _ _ _ _ _ _ rfl rfl hip ?_)
      refine ret_cell rfl br _ _ _ _ rfl (hip.set6 _ _ _ _ _ _) Try.underlying25 rfl (by kernel_rfl) rfl ?_
      rw [HS.out]
      exact pOut_bad (by decide) (below_own HO.out.bel HN.out.1 (setP_grown _ _ _ _ _ _ _ _))
    · have d1 : decide (x < 1) = false := decide_eq_false h1
      by_cases h2 : m < x
      · have d2 : decide (m < x) = true := decide_eq_true h2
        have HS : Hid (cutV m a0 x (0, F, l) = (1, 0, 0, [])) := by unfold Hid cutV; rw [if_neg (by simp), if_neg (by rw [okx_no (.inr h2)]; simp)]
        clear h1 h2
        go_wp2_with (refine wpList_st_page rfl _ _ rfl br rfl _ _ _ _ _ _ rfl rfl hip ?_)
        refine ret_cell rfl br _ _ _ _ rfl (hip.set6 _ _ _ _ _ _) Try.underlying25 rfl (by kernel_rfl) rfl ?_
        rw [HS.out]
        exact pOut_bad (by decide) (below_own HO.out.bel HN.out.1 (setP_grown _ _ _ _ _ _ _ _))
      · have d2 : decide (m < x) = false := decide_eq_false h2
        have hx : okx m x = true := okx_yes (by omega) (by omega)
        have HX := Lib.hid hx
        have HXB : Hid (x ≤ 9223372036854775807) := by have := okx_bd hx; have := HMB.out; unfold Hid; omega
        obtain ⟨G, hG⟩ : ∃ G : Nat, (G : Int) = xgap m F x := ⟨(xgap m F x).toNat, by have := (xgap_bd m F x).1; omega⟩
        have HS : Hid (cutV m a0 x (0, F, l) = (0, a0, x, bsOf (cutN m F (stOf l) G) (sz m))) := by
          unfold Hid cutV; rw [if_neg (by simp), if_pos hx]
          have e : (xgap m F x).toNat = G := by omega
          show (0, a0, x, bsOf (cutN m F (stOf l) (xgap m F x).toNat) (sz m)) = _
          rw [e]
        have HGX : Hid (xadd m F G = x ∧ (G : Int) < m) := by unfold Hid; rw [hG]; exact xadd_gap HM.out HFX.out hx
        have HGAP := Lib.hid (fun k (hk : k ≤ G) => gap_left HM.out HFX.out hx hG hk)
        obtain ⟨M, hM⟩ : ∃ M, M = m.toNat := ⟨_, rfl⟩
        have HMM : Hid ((M : Int) = m) := by have := HMB.out; unfold Hid; omega
        have hM1024 : M ≤ 1024 := by have := HMB.out; omega
        have HML : Hid (M ≤ 4 * sz m) := by rw [hM]; exact okm_le HM.out
        have HZ : Hid (sz m ≤ 256) := (sz_int HM.out).2.2
        rw [← hM] at HO HKF ⊢
        clear h1 h2 hx hip hM hG
        go_wp2_with fail
        go_loopw [11] (fun i wr => ∃ k : Nat, k ≤ G ∧ i = .int .i64 (xadd m F k) ∧ Hid (OpS w wr bt br g a0 a1 a2 a3 h (.slice ao len cap) (stL (cutN m F (stOf l) k) M))) (fun i _ => (xgap m (intOf i) x).toNat)
        case atStart => exact ⟨0, Nat.zero_le _, by rw [show ((0 : Nat) : Int) = 0 from rfl, xadd_zero HM.out HFX.out], HO.out⟩
        case round =>
          obtain ⟨k, hk, rfl, HK⟩ := hrel
          by_cases hlt : k < G
          · have hne : (xadd m F k == x) = false := by
              rw [beq_eq_false_iff_ne]; intro e
              rw [← HGX.out.1] at e
              have := xadd_inj HM.out HFX.out (by have := HGX.out.2; omega) HGX.out.2 e
              omega
            have HME : Hid ((xgap m (xadd m F ((k + 1 : Nat) : Int)) x).toNat < (xgap m (xadd m F k) x).toNat) := by
              unfold Hid; rw [HGAP.out k hk, HGAP.out (k + 1) (by omega)]; omega
            have HZB := Lib.hid (xadd_bd HM.out HFX.out (k : Int))
            have HAD := Lib.hid (xadd_next HM.out HFX.out (k : Int))
            have HCN : Hid (cutN m F (stOf l) (k + 1) = upd (cutN m F (stOf l) k) (xadd m F k - 1).toNat 0) := rfl
            generalize hzz : xadd m F k = z at *
            have HZZ := Lib.hid hzz
            clear hzz
            have HXA : Hid (xadd m z 1 = xadd m F ((k + 1 : Nat) : Int)) := by
              have := HMB.out; have hz := HZB.out
              unfold Hid
              rw [xadd_eq HM.out (okx_yes hz.1 hz.2), show ((k + 1 : Nat) : Int) = (k : Int) + 1 by omega, ← HAD.out]
              congr 2; omega
            obtain ⟨Z, rfl⟩ : ∃ Z : Nat, z = (Z : Int) + 1 := ⟨(z - 1).toNat, by have := HZB.out; omega⟩
            have hZM : Z < M := by have := HZB.out; have := HMM.out; omega
            have e1 : ((Z : Int) + 1 - 1).toNat = Z := by omega
            rw [e1] at HCN
            have hbc := HK.out.bv.cell Z (by rw [stL_len]; exact hZM)
            have hbf := HK.out.bv.fr Z (by rw [stL_len]; exact hZM)
            have HPUT : Hid (OpS w (wr.setCell ⟨g, Z, none⟩ (.int .u8 0)) bt br g a0 a1 a2 a3 h (.slice ao len cap) (stL (cutN m F (stOf l) (k + 1)) M)) := by
              refine HK.out.put ?_ (grown_set _ _ _ _)
              rw [HCN.out, stL_upd]
              exact HK.out.bv.set Z _ _ rfl (by rw [stL_len]; exact hZM)
            clear e1 HCN HAD HZB
            go_wp2_with fail
            generalize wr.setCell ⟨g, Z, none⟩ (.int .u8 0) = w4 at *
            clear hbc hbf
            refine (radd_c m ((Z : Int) + 1) 1 w4).mono ?_
            rw [HXA.out]
            rintro e w5 ⟨rfl, rfl⟩
            have HME2 := HME.out
            have HZ3 := HZZ.out
            clear HME HZZ
            go_wp2_with fail
            go_roundw
            case rel => exact ⟨k + 1, by omega, rfl, HPUT.out⟩
            case measure => simpa [intOf] using HME2
          · have e : k = G := by omega
            subst e
            rw [HGX.out.1]
            have hxx : (x == x) = true := by simp
            have HKU : Hid (okf (cutN m F (stOf l) k) M) := cutN_out HKF.out k
            obtain ⟨c0, c1, c2, c3, c4, c5⟩ := HK.out.tb.cell
            go_wp2_with fail
            clear c0 c1 c2 c3 c4 c5
            refine (laid_c m x a0 (some ⟨g, 0, none⟩) M cp (cutN m F (stOf l) k) wr HM.out HXB.out HKU.out HML.out (StIn.of HKU.out.le HK.out.bv)).mono ?_
            rintro e w5 ⟨⟨q, rfl, hq, hge⟩, hb5⟩
            have HO5 := Lib.hid (HK.out.below hb5)
            have hip := HO5.out.pg
            have HNE : Hid (some q ≠ some br) := by have := HK.out.pg.lt; unfold Hid; intro e; injection e with e; omega
            have HQ := Lib.hid hq
            clear hb5 hge hq HK
            unfold pgV
            go_wp2_with (refine wpList_st_page rfl _ _ rfl br rfl _ _ _ _ _ _ rfl rfl hip ?_)
            refine ret_cell rfl br _ _ _ _ rfl (hip.set6 _ _ _ _ _ _) Try.underlying25 rfl (by kernel_rfl) rfl ?_
            rw [HS.out]
            exact pOut_ok (HQ.out.grown (setP_grown _ _ _ _ _ _ _ _) HNE.out) HXB.out (by rw [bsOf_len]; have := HZ.out; omega) (below_own HO5.out.bel HN.out.1 (setP_grown _ _ _ _ _ _ _ _))
  · have hE1 : (E != 0) = true := by rw [bne_iff_ne]; exact hE
    have HS : Hid (cutV m a0 x (E, F, l) = (E, 0, 0, [])) := by unfold Hid cutV; rw [if_pos hE]
    have hip := HR1.out
    clear HV HOK
    go_wp2_with (refine wpList_st_page rfl _ _ rfl br rfl _ _ _ _ _ _ rfl rfl hip ?_)
    refine ret_cell rfl br _ _ _ _ rfl (hip.set6 _ _ _ _ _ _) Try.underlying25 rfl (by kernel_rfl) rfl ?_
    rw [HS.out]
    exact pOut_bad hE (below_own HB1.out HN.out.1 (setP_grown _ _ _ _ _ _ _ _))
end Go.Proofs.Ytpmhcpphbilokaa
