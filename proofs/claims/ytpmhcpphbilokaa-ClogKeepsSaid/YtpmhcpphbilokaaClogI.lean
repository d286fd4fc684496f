/- Statuses: the walk of Cut. -/
import Derived.Test.YtpmhcpphbilokaaClogH
namespace Go.Proofs.Ytpmhcpphbilokaa
open Go.RowKit
set_option linter.unusedSimpArgs false
set_option maxRecDepth 100000

/-- The statuses, n of them forgotten from a limit on. -/
def cutN (m F : Int) (f : Nat → Nat) : Nat → (Nat → Nat)
  | 0 => f
  | n + 1 => upd (cutN m F f n) (xadd m F n - 1).toNat 0
theorem cutN_le {f : Nat → Nat} (h : ∀ i, f i ≤ 3) (m F : Int) (n i : Nat) : cutN m F f n i ≤ 3 := by
  induction n generalizing i with
  | zero => exact h i
  | succ n ih => exact upd_le ih (by omega) _ i
/-- A page that is cut. -/
def cutV (m a0 x : Int) (o : Int × Int × List UInt8) : Int × Int × Int × List UInt8 :=
  if o.1 ≠ 0 then (o.1, 0, 0, []) else if okx m x = true then (0, a0, x, bsOf (cutN m o.2.1 (stOf o.2.2) (xgap m o.2.1 x).toNat) (sz m)) else (1, 0, 0, [])
theorem xadd_bd {m F : Int} (hm : okm m = true) (hF : okx m F = true) (n : Int) : 1 ≤ xadd m F n ∧ xadd m F n ≤ m := by
  have hb := okm_bd hm
  unfold xadd
  rw [hm, hF]
  simp only [Bool.and_self, if_true]
  have h1 := Int.emod_nonneg (F - 1 + n) (show m ≠ 0 by omega)
  have h2 := Int.emod_lt_of_pos (F - 1 + n) (show 0 < m by omega)
  omega

set_option maxHeartbeats 4000000 in
theorem cut_c (m a0 a1 a2 a3 x : Int) (h : ByteArray) (ao : Option Addr) (len cap : Nat) (S : Nat → ByteArray) (w : World) (hs : StrsIn w ao len S) :
    Calls Try.prog 13 #[.int .i64 m, .agg #[.int .i64 a0, .int .i64 a1, .int .i64 a2, .int .i64 a3, .string h, .slice ao len cap], .int .i64 x] w fun e w' => POut w (cutV m a0 x (opV m a0 a1 a2 a3 h len S)) e w' := by
  obtain ⟨wb, hwb⟩ : ∃ wb, wb = w.alloc (.cells #[.int .i64 a0, .int .i64 a1, .int .i64 a2, .int .i64 a3, .string h, .slice ao len cap] 25) := ⟨_, rfl⟩
  obtain ⟨bt, hbt⟩ : ∃ bt, bt = w.heap.size := ⟨_, rfl⟩
  have H0 : Hid (PB w wb bt a0 a1 a2 a3 h ao len cap S) := by rw [hwb, hbt]; exact PB.new w a0 a1 a2 a3 h ao len cap S hs
  obtain ⟨wc, hwc⟩ : ∃ wc, wc = wb.alloc (.cells #[.int .i64 0, .int .i64 0, .int .i64 0, .int .i64 0, .string ⟨#[]⟩, .slice none 0 0] 25) := ⟨_, rfl⟩
  obtain ⟨br, hbr⟩ : ∃ br, br = wb.heap.size := ⟨_, rfl⟩
  have H1 : Hid (PB w wc bt a0 a1 a2 a3 h ao len cap S) := by rw [hwc]; exact H0.out.below ((Below.refl _ _).alloc (Nat.le_refl _) _)
  have HRB : Hid (IsPg wc br) := by rw [hwc, hbr]; exact (PK.new wb 0 0 0 0 _ _).is
  have HN : Hid (w.heap.size ≤ br ∧ bt < br) := by rw [hbr]; exact ⟨H0.out.bel.size, H0.out.tb.lt⟩
  have HWC := Lib.hid hwc
  have HBR : Hid (br = w.heap.size + 1) := by unfold Hid; rw [hbr, hwb]; simp
  have HWB := Lib.hid hwb
  have HBT := Lib.hid hbt
  obtain ⟨o, ho⟩ : ∃ o, o = opV m a0 a1 a2 a3 h len S := ⟨_, rfl⟩
  rw [← ho]
  have CO := Lib.hid (fun w' (hh : StrsIn w' ao len S) => open_c m a0 a1 a2 a3 h ao len cap S w' hh)
  rw [← ho] at CO
  have HOK := Lib.hid (opV_ok ho)
  clear hwb hbt hs ho hwc hbr
  go_enter Try.func13, Try.ntmps13
  have c := H1.out.cell
  rw [HWC.out, HWB.out, HBT.out] at c
  obtain ⟨c0, c1, c2, c3, c4, c5⟩ := c
  go_wp2_with fail
  clear c0 c1 c2 c3 c4 c5
  rw [← HWB.out, ← HWC.out, ← HBR.out, ← HBT.out]
  clear HWB HBT HWC HBR H0
  refine (CO.out _ H1.out.it).mono ?_
  clear CO
  rintro e w1 ⟨⟨v, rfl, hv⟩, hb⟩
  have HP1 := Lib.hid (H1.out.tb.below hb)
  have HB1 := Lib.hid (H1.out.bel.trans (hb.mono H1.out.bel.size))
  have HR1 := Lib.hid (HRB.out.grown (grown_of hb) (by simp))
  have HV := Lib.hid hv
  have HLT : Hid (br < wc.heap.size) := HRB.out.lt
  clear hb hv H1 HRB
  obtain ⟨E, F, l⟩ := o
  simp only at HV HOK ⊢
  by_cases hE : E = 0
  · subst hE
    obtain ⟨g, cp, rfl, hge, hbv⟩ := HV.out rfl
    obtain ⟨hm, hF, hl, _, _⟩ := HOK.out rfl
    (try simp only at hbv hl hF)
    have CI := Lib.hid (fun w => isID_ok m x w hm)
    have CG := Lib.hid (fun w => gap_c m F x w)
    have CA := Lib.hid (fun n w => add_c m F n w)
    have HAB := Lib.hid (fun n => xadd_bd hm hF n)
    have HGB := Lib.hid (xgap_bd m F x)
    have HMB := Lib.hid (okm_bd hm)
    have HO : Hid (OpS w w1 bt br g a0 a1 a2 a3 h (.slice ao len cap) l) := ⟨HP1.out, HR1.out, hbv, HB1.out, HN.out.1, by have := HLT.out; omega, by have := HLT.out; have := HN.out.2; omega⟩
    have HL := Lib.hid hl
    have HSZ := Lib.hid (sz_int hm)
    clear HV HOK hbv hl hm hF hge HLT HP1 HB1 HR1
    go_wp2_with fail
    refine (CI.out w1).mono ?_
    rintro e w2 ⟨rfl, hb2⟩
    have HO2 := Lib.hid (HO.out.below hb2)
    clear hb2 HO CI
    cases hx : okx m x
    · have HS : Hid (cutV m a0 x (0, F, l) = (1, 0, 0, [])) := by unfold Hid cutV; rw [if_neg (by simp), if_neg (by rw [hx]; simp)]
      have hip := HO2.out.pg
      go_wp2_with (refine wpList_st_page rfl _ _ rfl br rfl _ _ _ _ _ _ rfl rfl hip ?_)
      refine ret_cell rfl br _ _ _ _ rfl (hip.set6 _ _ _ _ _ _) Try.underlying25 rfl (by kernel_rfl) rfl ?_
      rw [HS.out]
      exact pOut_bad (by decide) (below_own HO2.out.bel HN.out.1 (setP_grown _ _ _ _ _ _ _ _))
    · have HXB : Hid (x ≤ 9223372036854775807) := by have := okx_bd hx; have := HMB.out; unfold Hid; omega
      obtain ⟨G, hG⟩ : ∃ G : Nat, (G : Int) = xgap m F x := ⟨(xgap m F x).toNat, by have := HGB.out.1; omega⟩
      have HGL : Hid (G ≤ 1024) := by have := HGB.out.2.1; unfold Hid; omega
      have HS : Hid (cutV m a0 x (0, F, l) = (0, a0, x, bsOf (cutN m F (stOf l) G) (sz m))) := by
        unfold Hid cutV; rw [if_neg (by simp), if_pos hx]
        have e : (xgap m F x).toNat = G := by omega
        show (0, a0, x, bsOf (cutN m F (stOf l) (xgap m F x).toNat) (sz m)) = _
        rw [e]
      rw [← hG] at CG
      have HSL : Hid (l.length = sz m) := HL.out
      obtain ⟨n, hn⟩ : ∃ n, n = sz m := ⟨_, rfl⟩
      have HNB : Hid (n ≤ 256) := by rw [hn]; exact HSZ.out.2.2
      have HMN : Hid (m ≤ 4 * n ∧ m ≤ 1024) := by have := HSZ.out; have := HMB.out; unfold Hid; omega
      rw [← hn] at HS HSL
      have hll := HSL.out
      have HO3 : Hid (OpS w w2 bt br g a0 a1 a2 a3 h (.slice ao len cap) (bsOf (cutN m F (stOf l) 0) n)) := by
        show OpS w w2 bt br g a0 a1 a2 a3 h (.slice ao len cap) (bsOf (stOf l) n)
        rw [← hll, bsOf_st]; exact HO2.out
      clear hn HL HSZ HMB hx hG HGB HO2
      rw [hll]
      go_wp2_with fail
      refine (CG.out w2).mono ?_
      rintro e w3 ⟨rfl, hb3⟩
      have HO4 := Lib.hid (HO3.out.below hb3)
      have hgl := HGL.out
      clear hb3 HO3 CG
      go_wp2_with fail
      go_loopw [32] (fun i wr => ∃ k : Nat, k ≤ G ∧ i = .int .i64 k ∧ Hid (OpS w wr bt br g a0 a1 a2 a3 h (.slice ao len cap) (bsOf (cutN m F (stOf l) k) n))) (fun i _ => G - (intOf i).toNat)
      case atStart => exact ⟨0, by omega, rfl, HO4.out⟩
      case round =>
        obtain ⟨k, hk, rfl, HK⟩ := hrel
        by_cases hlt : k < G
        · obtain ⟨X, hX⟩ : ∃ X : Nat, (X : Int) = xadd m F k := ⟨(xadd m F k).toNat, by have := (HAB.out k).1; omega⟩
          have HXN : Hid (1 ≤ X ∧ X ≤ 1024 ∧ X ≤ 4 * n) := by have := HAB.out k; have := HMN.out; unfold Hid; omega
          have HCS : Hid (upd (cutN m F (stOf l) k) (X - 1) 0 = cutN m F (stOf l) (k + 1)) := by
            have e : (xadd m F k - 1).toNat = X - 1 := by omega
            unfold Hid
            show _ = upd (cutN m F (stOf l) k) (xadd m F k - 1).toNat 0
            rw [e]
          have CAK := Lib.hid (CA.out k)
          rw [← hX] at CAK
          clear hX
          go_wp2_with fail
          refine (CAK.out _).mono ?_
          rintro e w4 ⟨rfl, hb4⟩
          have HK4 := Lib.hid (HK.out.below hb4)
          clear hb4 CAK HK
          go_wp2_with fail
          refine (putf_c g cp n (cutN m F (stOf l) k) X 0 w4 (cutN_le (stOf_le l) m F k) HK4.out.bv ⟨HXN.out.1, HXN.out.2.1⟩ HXN.out.2.2 (by omega)).mono ?_
          rintro e w5 ⟨rfl, hv5, hg5⟩
          rw [HCS.out] at hv5
          have HK5 := Lib.hid (HK4.out.put hv5 hg5)
          clear hv5 hg5 HK4
          go_wp2_with fail
          go_roundw
          case rel => exact ⟨k + 1, by omega, by go_num, HK5.out⟩
          case measure => simp [intOf]; omega
        · have e : k = G := by omega
          subst e
          obtain ⟨c0, c1, c2, c3, c4, c5⟩ := HK.out.tb.cell
          go_wp2_with fail
          clear c0 c1 c2 c3 c4 c5
          refine (made_c x a0 g n cp _ _ HXB.out (bsOf_len _ _) HK.out.bv.cell).mono ?_
          rintro e w5 ⟨⟨q, rfl, hq, hge⟩, hb5⟩
          have HO5 := Lib.hid (HK.out.below hb5)
          have hip := HO5.out.pg
          have HNE : Hid (some q ≠ some br) := by have := HK.out.pg.lt; unfold Hid; intro e; injection e with e; omega
          have HQ := Lib.hid hq
          clear hb5 hge hq HK
          unfold pgV
          go_wp2_with (refine wpList_st_page rfl _ _ rfl br rfl _ _ _ _ _ _ rfl rfl hip ?_)
          refine ret_cell rfl br _ _ _ _ rfl (hip.set6 _ _ _ _ _ _) Try.underlying25 rfl (by kernel_rfl) rfl ?_
          rw [HS.out]
          exact pOut_ok (HQ.out.grown (setP_grown _ _ _ _ _ _ _ _) HNE.out) HXB.out (by rw [bsOf_len]; have := HNB.out; omega) (below_own HO5.out.bel HN.out.1 (setP_grown _ _ _ _ _ _ _ _))
  · have hE1 : (E != 0) = true := by rw [bne_iff_ne]; exact hE
    have HS : Hid (cutV m a0 x (E, F, l) = (E, 0, 0, [])) := by unfold Hid cutV; rw [if_pos hE]
    have hip := HR1.out
    clear HV HOK
    go_wp2_with (refine wpList_st_page rfl _ _ rfl br rfl _ _ _ _ _ _ rfl rfl hip ?_)
    refine ret_cell rfl br _ _ _ _ rfl (hip.set6 _ _ _ _ _ _) Try.underlying25 rfl (by kernel_rfl) rfl ?_
    rw [HS.out]
    exact pOut_bad hE (below_own HB1.out HN.out.1 (setP_grown _ _ _ _ _ _ _ _))
end Go.Proofs.Ytpmhcpphbilokaa
