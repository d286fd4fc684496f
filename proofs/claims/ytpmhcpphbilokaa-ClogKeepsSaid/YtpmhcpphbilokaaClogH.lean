/- Statuses: the walks of Frozen, Check, Set, Cut. -/
import Derived.Test.YtpmhcpphbilokaaClogG
namespace Go.Proofs.Ytpmhcpphbilokaa
open Go.RowKit
set_option linter.unusedSimpArgs false
set_option maxRecDepth 100000

def frV (o : Int × Int × List UInt8) : Int × Int := (o.2.1, o.1)

set_option maxHeartbeats 2000000 in
theorem frozen_c (m a0 a1 a2 a3 : Int) (h : ByteArray) (ao : Option Addr) (len cap : Nat) (S : Nat → ByteArray) (w : World) (hs : StrsIn w ao len S) :
    Calls Try.prog 16 #[.int .i64 m, .agg #[.int .i64 a0, .int .i64 a1, .int .i64 a2, .int .i64 a3, .string h, .slice ao len cap]] w fun e w' => e = .returned (.tuple #[.int .i64 (opV m a0 a1 a2 a3 h len S).2.1, .int .i64 (opV m a0 a1 a2 a3 h len S).1]) ∧ Below w.heap.size w w' := by
  obtain ⟨wb, hwb⟩ : ∃ wb, wb = w.alloc (.cells #[.int .i64 a0, .int .i64 a1, .int .i64 a2, .int .i64 a3, .string h, .slice ao len cap] 25) := ⟨_, rfl⟩
  obtain ⟨bt, hbt⟩ : ∃ bt, bt = w.heap.size := ⟨_, rfl⟩
  have H0 : Hid (PB w wb bt a0 a1 a2 a3 h ao len cap S) := by rw [hwb, hbt]; exact PB.new w a0 a1 a2 a3 h ao len cap S hs
  have HWB := Lib.hid hwb
  have HBT := Lib.hid hbt
  obtain ⟨o, ho⟩ : ∃ o, o = opV m a0 a1 a2 a3 h len S := ⟨_, rfl⟩
  rw [← ho]
  have CO := Lib.hid (fun w' (hh : StrsIn w' ao len S) => open_c m a0 a1 a2 a3 h ao len cap S w' hh)
  rw [← ho] at CO
  clear hwb hbt hs ho
  go_enter Try.func16, Try.ntmps16
  have c := H0.out.cell
  rw [HWB.out, HBT.out] at c
  obtain ⟨c0, c1, c2, c3, c4, c5⟩ := c
  go_wp2_with fail
  clear c0 c1 c2 c3 c4 c5
  rw [← HWB.out, ← HBT.out]
  clear HWB HBT
  refine (CO.out _ H0.out.it).mono ?_
  clear CO
  rintro e w1 ⟨⟨v, rfl, hv⟩, hb⟩
  have HB1 := Lib.hid (H0.out.bel.trans (hb.mono H0.out.bel.size))
  clear hb hv H0
  obtain ⟨E, F, l⟩ := o
  go_wp2_with fail
  go_ret2
  exact ⟨rfl, HB1.out⟩

set_option maxHeartbeats 2000000 in
theorem check_c (m a0 a1 a2 a3 : Int) (h : ByteArray) (ao : Option Addr) (len cap : Nat) (S : Nat → ByteArray) (w : World) (hs : StrsIn w ao len S) :
    Calls Try.prog 20 #[.int .i64 m, .agg #[.int .i64 a0, .int .i64 a1, .int .i64 a2, .int .i64 a3, .string h, .slice ao len cap]] w fun e w' => e = .returned (.int .i64 (opV m a0 a1 a2 a3 h len S).1) ∧ Below w.heap.size w w' := by
  obtain ⟨wb, hwb⟩ : ∃ wb, wb = w.alloc (.cells #[.int .i64 a0, .int .i64 a1, .int .i64 a2, .int .i64 a3, .string h, .slice ao len cap] 25) := ⟨_, rfl⟩
  obtain ⟨bt, hbt⟩ : ∃ bt, bt = w.heap.size := ⟨_, rfl⟩
  have H0 : Hid (PB w wb bt a0 a1 a2 a3 h ao len cap S) := by rw [hwb, hbt]; exact PB.new w a0 a1 a2 a3 h ao len cap S hs
  have HWB := Lib.hid hwb
  have HBT := Lib.hid hbt
  obtain ⟨o, ho⟩ : ∃ o, o = opV m a0 a1 a2 a3 h len S := ⟨_, rfl⟩
  rw [← ho]
  have CO := Lib.hid (fun w' (hh : StrsIn w' ao len S) => open_c m a0 a1 a2 a3 h ao len cap S w' hh)
  rw [← ho] at CO
  clear hwb hbt hs ho
  go_enter Try.func20, Try.ntmps20
  have c := H0.out.cell
  rw [HWB.out, HBT.out] at c
  obtain ⟨c0, c1, c2, c3, c4, c5⟩ := c
  go_wp2_with fail
  clear c0 c1 c2 c3 c4 c5
  rw [← HWB.out, ← HBT.out]
  clear HWB HBT
  refine (CO.out _ H0.out.it).mono ?_
  clear CO
  rintro e w1 ⟨⟨v, rfl, hv⟩, hb⟩
  have HB1 := Lib.hid (H0.out.bel.trans (hb.mono H0.out.bel.size))
  clear hb hv H0
  obtain ⟨E, F, l⟩ := o
  go_wp2_with fail
  go_ret
  exact ⟨rfl, HB1.out⟩

/-- While a page is being changed. -/
structure OpS (W wx : World) (bt br g : Nat) (a0 a1 a2 a3 : Int) (h : ByteArray) (v : Value) (l : List UInt8) : Prop where
  tb : PK wx bt a0 a1 a2 a3 h v
  pg : IsPg wx br
  bv : BV wx g l
  bel : Below W.heap.size W wx
  n0 : W.heap.size ≤ br
  n1 : br < g
  n2 : bt ≠ g
theorem OpS.below {W wx w' : World} {bt br g : Nat} {a0 a1 a2 a3 : Int} {h : ByteArray} {v : Value} {l : List UInt8} (H : OpS W wx bt br g a0 a1 a2 a3 h v l) (hb : Below wx.heap.size wx w') : OpS W w' bt br g a0 a1 a2 a3 h v l :=
  ⟨H.tb.below hb, H.pg.grown (grown_of hb) (by simp), H.bv.below hb, H.bel.trans (hb.mono H.bel.size), H.n0, H.n1, H.n2⟩
theorem OpS.put {W wx w' : World} {bt br g : Nat} {a0 a1 a2 a3 : Int} {h : ByteArray} {v : Value} {l l' : List UInt8} (H : OpS W wx bt br g a0 a1 a2 a3 h v l) (hv : BV w' g l') (hg : wx.grownBy w' (some g)) : OpS W w' bt br g a0 a1 a2 a3 h v l' := by
  have h1 := H.n1; have h2 := H.n2; have h0 := H.n0
  exact ⟨H.tb.grown hg (by simpa using h2), H.pg.grown hg (by simp; omega), hv, below_own H.bel (by omega) hg, H.n0, H.n1, H.n2⟩

/-- A page with another status. -/
def setV (m a0 x s : Int) (o : Int × Int × List UInt8) : Int × Int × Int × List UInt8 :=
  if o.1 ≠ 0 then (o.1, 0, 0, []) else if okx m x = true ∧ s ≤ 3 then (0, a0, o.2.1, bsOf (upd (stOf o.2.2) (x - 1).toNat s.toNat) (sz m)) else (1, 0, 0, [])

set_option maxHeartbeats 4000000 in
theorem set_c (m a0 a1 a2 a3 x s : Int) (h : ByteArray) (ao : Option Addr) (len cap : Nat) (S : Nat → ByteArray) (w : World) (hs : StrsIn w ao len S) (hs0 : 0 ≤ s) :
    Calls Try.prog 11 #[.int .i64 m, .agg #[.int .i64 a0, .int .i64 a1, .int .i64 a2, .int .i64 a3, .string h, .slice ao len cap], .int .i64 x, .int .u8 s] w fun e w' => POut w (setV m a0 x s (opV m a0 a1 a2 a3 h len S)) e w' := by
  obtain ⟨wb, hwb⟩ : ∃ wb, wb = w.alloc (.cells #[.int .i64 a0, .int .i64 a1, .int .i64 a2, .int .i64 a3, .string h, .slice ao len cap] 25) := ⟨_, rfl⟩
  obtain ⟨bt, hbt⟩ : ∃ bt, bt = w.heap.size := ⟨_, rfl⟩
  have H0 : Hid (PB w wb bt a0 a1 a2 a3 h ao len cap S) := by rw [hwb, hbt]; exact PB.new w a0 a1 a2 a3 h ao len cap S hs
  obtain ⟨wc, hwc⟩ : ∃ wc, wc = wb.alloc (.cells #[.int .i64 0, .int .i64 0, .int .i64 0, .int .i64 0, .string ⟨#[]⟩, .slice none 0 0] 25) := ⟨_, rfl⟩
  obtain ⟨br, hbr⟩ : ∃ br, br = wb.heap.size := ⟨_, rfl⟩
  have H1 : Hid (PB w wc bt a0 a1 a2 a3 h ao len cap S) := by rw [hwc]; exact H0.out.below ((Below.refl _ _).alloc (Nat.le_refl _) _)
  have HRB : Hid (IsPg wc br) := by rw [hwc, hbr]; exact (PK.new wb 0 0 0 0 _ _).is
  have HN : Hid (w.heap.size ≤ br ∧ bt < br) := by rw [hbr]; exact ⟨H0.out.bel.size, H0.out.tb.lt⟩
  have HWC := Lib.hid hwc
  have HBR : Hid (br = w.heap.size + 1) := by unfold Hid; rw [hbr, hwb]; simp
  have HWB := Lib.hid hwb
  have HBT := Lib.hid hbt
  obtain ⟨o, ho⟩ : ∃ o, o = opV m a0 a1 a2 a3 h len S := ⟨_, rfl⟩
  rw [← ho]
  have CO := Lib.hid (fun w' (hh : StrsIn w' ao len S) => open_c m a0 a1 a2 a3 h ao len cap S w' hh)
  rw [← ho] at CO
  have HOK := Lib.hid (opV_ok ho)
  clear hwb hbt hs ho hwc hbr
  go_enter Try.func11, Try.ntmps11
  have c := H1.out.cell
  rw [HWC.out, HWB.out, HBT.out] at c
  obtain ⟨c0, c1, c2, c3, c4, c5⟩ := c
  go_wp2_with fail
  clear c0 c1 c2 c3 c4 c5
  rw [← HWB.out, ← HWC.out, ← HBR.out, ← HBT.out]
  clear HWB HBT HWC HBR H0
  refine (CO.out _ H1.out.it).mono ?_
  clear CO
  rintro e w1 ⟨⟨v, rfl, hv⟩, hb⟩
  have HP1 := Lib.hid (H1.out.tb.below hb)
  have HB1 := Lib.hid (H1.out.bel.trans (hb.mono H1.out.bel.size))
  have HR1 := Lib.hid (HRB.out.grown (grown_of hb) (by simp))
  have HV := Lib.hid hv
  have HLT : Hid (br < wc.heap.size) := HRB.out.lt
  clear hb hv H1 HRB
  obtain ⟨E, F, l⟩ := o
  simp only at HV HOK ⊢
  by_cases hE : E = 0
  · subst hE
    obtain ⟨g, cp, rfl, hge, hbv⟩ := HV.out rfl
    obtain ⟨hm, hF, hl, _, _⟩ := HOK.out rfl
    (try simp only at hbv hl hF)
    have CI := Lib.hid (fun w => isID_ok m x w hm)
    have HMB := Lib.hid (okm_bd hm)
    have HF : Hid (F ≤ 9223372036854775807) := by have := okx_bd hF; have := okm_bd hm; unfold Hid; omega
    have HO : Hid (OpS w w1 bt br g a0 a1 a2 a3 h (.slice ao len cap) l) := ⟨HP1.out, HR1.out, hbv, HB1.out, HN.out.1, by have := HLT.out; omega, by have := HLT.out; have := HN.out.2; omega⟩
    have HL := Lib.hid hl
    have HSZ := Lib.hid (sz_int hm)
    clear HV HOK hbv hl hm hF hge HLT HP1 HB1 HR1
    go_wp2_with fail
    refine (CI.out w1).mono ?_
    rintro e w2 ⟨rfl, hb2⟩
    have HO2 := Lib.hid (HO.out.below hb2)
    clear hb2 HO CI
    cases hx : okx m x
    · have HS : Hid (setV m a0 x s (0, F, l) = (1, 0, 0, [])) := by unfold Hid setV; rw [if_neg (by simp), if_neg (by rw [hx]; simp)]
      have hip := HO2.out.pg
      go_wp2_with (refine wpList_st_page rfl _ _ rfl br rfl _ _ _ _ _ _ rfl rfl hip ?_)
      refine ret_cell rfl br _ _ _ _ rfl (hip.set6 _ _ _ _ _ _) Try.underlying25 rfl (by kernel_rfl) rfl ?_
      rw [HS.out]
      exact pOut_bad (by decide) (below_own HO2.out.bel HN.out.1 (setP_grown _ _ _ _ _ _ _ _))
    · have hxb := okx_bd hx
      by_cases h3 : s ≤ 3
      · have HS : Hid (setV m a0 x s (0, F, l) = (0, a0, F, bsOf (upd (stOf l) (x - 1).toNat s.toNat) (sz m))) := by unfold Hid setV; rw [if_neg (by simp), if_pos ⟨hx, h3⟩]
        obtain ⟨X, rfl⟩ := Int.eq_ofNat_of_zero_le (show 0 ≤ x by omega)
        obtain ⟨T, rfl⟩ := Int.eq_ofNat_of_zero_le hs0
        have CP := Lib.hid (putf_c g cp (sz m) (stOf l) X T w2 (stOf_le l) (by rw [← HL.out, bsOf_st]; exact HO2.out.bv) (by have := HMB.out; omega) (by have := HSZ.out; have := HMB.out; omega) (by omega))
        have h3' : decide ((3 : Int) < (T : Int)) = false := decide_eq_false (by omega)
        have e1 : ((X : Int) - 1).toNat = X - 1 := by omega
        rw [e1] at HS
        have e2 : ((T : Int)).toNat = T := rfl
        rw [e2] at HS
        have HSL : Hid (l.length = sz m) := HL.out
        obtain ⟨n, hn⟩ : ∃ n, n = sz m := ⟨_, rfl⟩
        have HNB : Hid (n ≤ 256) := by rw [hn]; exact HSZ.out.2.2
        rw [← hn] at HS CP HSL
        have hll := HSL.out
        clear hn HL HSZ HMB hxb hx e1 e2 h3
        rw [hll]
        go_wp2_with fail
        refine CP.out.mono ?_
        rintro e w3 ⟨rfl, hv3, hg3⟩
        have HO3 := Lib.hid (HO2.out.put hv3 hg3)
        clear hv3 hg3 HO2 CP
        obtain ⟨c0, c1, c2, c3, c4, c5⟩ := HO3.out.tb.cell
        go_wp2_with fail
        clear c0 c1 c2 c3 c4 c5
        refine (made_c F a0 g n cp _ w3 HF.out (bsOf_len _ _) HO3.out.bv.cell).mono ?_
        rintro e w5 ⟨⟨q, rfl, hq, hge⟩, hb5⟩
        have HO5 := Lib.hid (HO3.out.below hb5)
        have hip := HO5.out.pg
        have HNE : Hid (some q ≠ some br) := by have := HO3.out.pg.lt; unfold Hid; intro e; injection e with e; omega
        have HQ := Lib.hid hq
        clear hb5 hge hq HO3
        unfold pgV
        go_wp2_with (refine wpList_st_page rfl _ _ rfl br rfl _ _ _ _ _ _ rfl rfl hip ?_)
        refine ret_cell rfl br _ _ _ _ rfl (hip.set6 _ _ _ _ _ _) Try.underlying25 rfl (by kernel_rfl) rfl ?_
        rw [HS.out]
        exact pOut_ok (HQ.out.grown (setP_grown _ _ _ _ _ _ _ _) HNE.out) HF.out (by rw [bsOf_len]; have := HNB.out; omega) (below_own HO5.out.bel HN.out.1 (setP_grown _ _ _ _ _ _ _ _))
      · have HS : Hid (setV m a0 x s (0, F, l) = (1, 0, 0, [])) := by unfold Hid setV; rw [if_neg (by simp), if_neg (fun q => h3 q.2)]
        have h3' : decide ((3 : Int) < s) = true := decide_eq_true (by omega)
        clear h3 hxb
        have hip := HO2.out.pg
        go_wp2_with (refine wpList_st_page rfl _ _ rfl br rfl _ _ _ _ _ _ rfl rfl hip ?_)
        refine ret_cell rfl br _ _ _ _ rfl (hip.set6 _ _ _ _ _ _) Try.underlying25 rfl (by kernel_rfl) rfl ?_
        rw [HS.out]
        exact pOut_bad (by decide) (below_own HO2.out.bel HN.out.1 (setP_grown _ _ _ _ _ _ _ _))
  · have hE1 : (E != 0) = true := by rw [bne_iff_ne]; exact hE
    have HS : Hid (setV m a0 x s (E, F, l) = (E, 0, 0, [])) := by unfold Hid setV; rw [if_pos hE]
    have hip := HR1.out
    clear HV HOK
    go_wp2_with (refine wpList_st_page rfl _ _ rfl br rfl _ _ _ _ _ _ rfl rfl hip ?_)
    refine ret_cell rfl br _ _ _ _ rfl (hip.set6 _ _ _ _ _ _) Try.underlying25 rfl (by kernel_rfl) rfl ?_
    rw [HS.out]
    exact pOut_bad hE (below_own HB1.out HN.out.1 (setP_grown _ _ _ _ _ _ _ _))
end Go.Proofs.Ytpmhcpphbilokaa
