/- Statuses: what an opened page is, plainly. -/
import Derived.Test.YtpmhcpphbilokaaClogE
import Derived.Test.YtpmhcpphbilokaaBitsR
namespace Go.Proofs.Ytpmhcpphbilokaa
open Go.RowKit
set_option linter.unusedSimpArgs false
set_option maxRecDepth 100000

theorem rd_le (most : Int) : ∀ (f k acc : Nat) (l : List UInt8) (m k' : Nat), rd most f k acc l = .inr (m, k') → (m : Int) ≤ max most 0 := by
  intro f
  induction f with
  | zero => intro k acc l m k' h; rw [rd] at h; cases h
  | succ f ih =>
    intro k acc l m k' h
    cases l with
    | nil => rw [rd] at h; cases h
    | cons b l =>
      rw [rd] at h
      split at h
      · cases h
      · split at h
        · exact ih _ _ _ _ _ h
        · split at h
          · cases h
          · injection h with h; injection h with h1 _
            omega
theorem numOut_le (s : ByteArray) (most : Int) : 0 ≤ (numOut s most).1 ∧ (numOut s most).1 ≤ max most 0 := by
  unfold numOut
  cases h : rd most 9 0 0 s.data.toList with
  | inl c => simp; omega
  | inr p =>
    obtain ⟨n, k⟩ := p
    have := rd_le most _ _ _ _ _ _ h
    simp; omega
theorem getD_last (l : List UInt8) (j : Nat) (h : l.length = j + 1) : l.getD j 0 = l.getLastD 0 := by
  rw [List.getLastD_eq_getLast?, List.getLast?_eq_getElem?, h, List.getD_eq_getElem?_getD]
  rfl
theorem div_pow0 {c a b : Nat} (h : c / 4 ^ a = 0) (hab : a ≤ b) : c / 4 ^ b = 0 := by
  have h1 : c < 4 ^ a := by
    rcases Nat.lt_or_ge c (4 ^ a) with q | q
    · exact q
    · have := Nat.div_pos q (Nat.pos_of_ne_zero (by simp)); omega
  exact Nat.div_eq_of_lt (Nat.lt_of_lt_of_le h1 (Nat.pow_le_pow_right (by omega) hab))
theorem tail_out {m : Int} {l : List UInt8} (hm : okm m = true) (hl : l.length = sz m) (ht : tailok m l = true) (i : Nat) (hi : m ≤ i) : stOf l i = 0 := by
  have hb := okm_bd hm
  have hz := sz_int hm
  unfold stOf
  by_cases hlt : i / 4 < sz m
  · have hj : l.length = i / 4 + 1 := by omega
    rw [getD_last l _ hj]
    unfold tailok at ht
    rw [Bool.or_eq_true, decide_eq_true_eq, decide_eq_true_eq] at ht
    rcases ht with ht | ht
    · omega
    · rw [div_pow0 ht (by omega)]
  · rw [List.getD_eq_getElem?_getD, List.getElem?_eq_none (by omega)]
    simp
theorem tail_yes {m : Int} {f : Nat → Nat} (hm : okm m = true) (hf : okf f m.toNat) : tailok m (bsOf f (sz m)) = true := by
  have hb := okm_bd hm
  have hz := sz_int hm
  unfold tailok
  rw [Bool.or_eq_true, decide_eq_true_eq, decide_eq_true_eq]
  by_cases h4 : m % 4 = 0
  · exact .inl h4
  · refine .inr ?_
    have hl : (bsOf f (sz m)).length = (sz m - 1) + 1 := by rw [bsOf_len]; omega
    rw [← getD_last _ _ hl, List.getD_eq_getElem?_getD, List.getElem?_eq_getElem (by omega), Option.getD_some, bsOf_nat hf.le]
    have e2 : m % 4 = 2 := by omega
    have o2 := hf.out (4 * (sz m - 1) + 2) (by omega)
    have o3 := hf.out (4 * (sz m - 1) + 3) (by omega)
    have l0 := hf.le (4 * (sz m - 1))
    have l1 := hf.le (4 * (sz m - 1) + 1)
    rw [e2]
    unfold byteF
    rw [o2, o3]
    show _ / 16 = 0
    omega
theorem opV_ok {m a0 a1 a2 a3 : Int} {h : ByteArray} {len : Nat} {S : Nat → ByteArray} {o : Int × Int × List UInt8} (ho : o = opV m a0 a1 a2 a3 h len S) (h0 : o.1 = 0) :
    okm m = true ∧ okx m o.2.1 = true ∧ o.2.2.length = sz m ∧ 0 ≤ a0 ∧ okf (stOf o.2.2) m.toNat := by
  subst ho
  unfold opV at h0 ⊢
  split at h0
  · cases h0
  · rename_i hm
    have hm : okm m = true := by simpa using hm
    rw [if_neg (by rw [hm]; simp)]
    split at h0
    · cases h0
    · rename_i hp
      rw [if_neg hp]
      have hp : okpg m a0 a1 a2 a3 h len S = true := by simpa using hp
      split at h0
      · rename_i hc
        rw [if_pos hc]
        obtain ⟨c1, c2, c3⟩ := hc
        simp only [okpg, Bool.and_eq_true, beq_iff_eq, decide_eq_true_eq] at hp
        obtain ⟨⟨⟨⟨⟨⟨_, q2⟩, _⟩, _⟩, _⟩, _⟩, q7⟩ := hp
        have hl : (S 1).data.toList.length = sz m := by rw [← q7]; exact Array.length_toList
        have hb := okm_bd hm
        have hn := numOut_le (S 0) m
        refine ⟨hm, okx_yes (by show 1 ≤ (numOut (S 0) m).1; omega) (by show (numOut (S 0) m).1 ≤ m; omega), hl, q2, ⟨fun i => stOf_le _ i, fun i hi => tail_out hm hl c3 i (by omega)⟩⟩
      · cases h0
theorem size_arr (l : List UInt8) : (⟨l.toArray⟩ : ByteArray).size = l.length := by show l.toArray.size = l.length; simp
theorem opV_pg {m a0 x : Int} {f : Nat → Nat} {S : Nat → ByteArray} (hm : okm m = true) (hx : okx m x = true) (ha : 0 ≤ a0) (hf : okf f m.toNat) (h0 : S 0 = numS x) (h1 : S 1 = ⟨(bsOf f (sz m)).toArray⟩) :
    opV m a0 1 0 0 ⟨#[]⟩ 2 S = (0, x, bsOf f (sz m)) := by
  have hb := okm_bd hm
  have hxb := okx_bd hx
  have hn : numOut (S 0) m = (x, ⟨#[]⟩, 0) := by
    have := numOut_sev x.toNat [] m (by omega) (by omega)
    rw [List.append_nil] at this
    rw [h0]; unfold numS; rw [this]
    congr 1; omega
  unfold opV
  rw [if_neg (by rw [hm]; simp)]
  have hok : okpg m a0 1 0 0 ⟨#[]⟩ 2 S = true := by
    have e : (⟨(bsOf f (sz m)).toArray⟩ : ByteArray).size = sz m := by rw [size_arr, bsOf_len]
    unfold okpg
    rw [h1, e]
    simp
    exact ⟨ha, rfl⟩
  rw [if_neg (by rw [hok]; simp), hn, h1, if_pos]
  refine ⟨rfl, by show x ≠ 0; omega, ?_⟩
  show tailok m (bsOf f (sz m)).toArray.toList = true
  rw [List.toList_toArray]
  exact tail_yes hm hf

/-- A status that is asked for. -/
def getV (m x : Int) (o : Int × Int × List UInt8) : Int × Int := if o.1 ≠ 0 then (0, o.1) else if okx m x = false then (0, 1) else ((stOf o.2.2 (x - 1).toNat : Nat), 0)
theorem isID_ok (m x : Int) (w : World) (hm : okm m = true) : Calls Try.prog 25 #[.int .i64 m, .int .i64 x] w fun e w' => e = .returned (.bool (okx m x)) ∧ Below w.heap.size w w' := by
  have h := isID_c m x w
  rw [hm] at h
  exact h
theorem get0 : ∀ c : Fin 256, bits .and .u8 ((c : Nat) : Int) 3 = (((c : Nat) / 4 ^ 0 % 4 : Nat) : Int) := by decide
theorem get1 : ∀ c : Fin 256, bits .and .u8 (((c : Nat) : Int) / 4) 3 = (((c : Nat) / 4 ^ 1 % 4 : Nat) : Int) := by decide
theorem get2 : ∀ c : Fin 256, bits .and .u8 (((c : Nat) : Int) / 16) 3 = (((c : Nat) / 4 ^ 2 % 4 : Nat) : Int) := by decide
theorem get3 : ∀ c : Fin 256, bits .and .u8 (((c : Nat) : Int) / 64) 3 = (((c : Nat) / 4 ^ 3 % 4 : Nat) : Int) := by decide

set_option maxHeartbeats 2000000 in
theorem get_c (m a0 a1 a2 a3 x : Int) (h : ByteArray) (ao : Option Addr) (len cap : Nat) (S : Nat → ByteArray) (w : World) (hs : StrsIn w ao len S) :
    Calls Try.prog 17 #[.int .i64 m, .agg #[.int .i64 a0, .int .i64 a1, .int .i64 a2, .int .i64 a3, .string h, .slice ao len cap], .int .i64 x] w fun e w' => e = .returned (.tuple #[.int .u8 (getV m x (opV m a0 a1 a2 a3 h len S)).1, .int .i64 (getV m x (opV m a0 a1 a2 a3 h len S)).2]) ∧ Below w.heap.size w w' := by
  obtain ⟨wb, hwb⟩ : ∃ wb, wb = w.alloc (.cells #[.int .i64 a0, .int .i64 a1, .int .i64 a2, .int .i64 a3, .string h, .slice ao len cap] 25) := ⟨_, rfl⟩
  obtain ⟨bt, hbt⟩ : ∃ bt, bt = w.heap.size := ⟨_, rfl⟩
  have H0 : Hid (PB w wb bt a0 a1 a2 a3 h ao len cap S) := by rw [hwb, hbt]; exact PB.new w a0 a1 a2 a3 h ao len cap S hs
  have HWB := Lib.hid hwb
  have HBT := Lib.hid hbt
  obtain ⟨o, ho⟩ : ∃ o, o = opV m a0 a1 a2 a3 h len S := ⟨_, rfl⟩
  rw [← ho]
  have CO := Lib.hid (fun w' (hh : StrsIn w' ao len S) => open_c m a0 a1 a2 a3 h ao len cap S w' hh)
  rw [← ho] at CO
  have HOK := Lib.hid (opV_ok ho)
  clear hwb hbt hs ho
  go_enter Try.func17, Try.ntmps17
  have c := H0.out.cell
  rw [HWB.out, HBT.out] at c
  obtain ⟨c0, c1, c2, c3, c4, c5⟩ := c
  go_wp2_with fail
  clear c0 c1 c2 c3 c4 c5
  rw [← HWB.out, ← HBT.out]
  clear HWB HBT
  refine (CO.out _ H0.out.it).mono ?_
  clear CO
  rintro e w1 ⟨⟨v, rfl, hv⟩, hb⟩
  have HB1 := Lib.hid (H0.out.bel.trans (hb.mono H0.out.bel.size))
  have HV := Lib.hid hv
  clear hb hv H0
  obtain ⟨E, F, l⟩ := o
  simp only at HV ⊢
  by_cases hE : E = 0
  · subst hE
    obtain ⟨g, cp, rfl, _, hbv⟩ := HV.out rfl
    obtain ⟨hm, _, hl, _, _⟩ := HOK.out rfl
    have CI := Lib.hid (fun w => isID_ok m x w hm)
    have HBV := Lib.hid hbv
    have HMB := Lib.hid (okm_bd hm)
    have HL := Lib.hid hl
    have HSZ := Lib.hid (sz_int hm)
    clear HV HOK hbv hl hm
    simp only at HBV HL
    go_wp2_with fail
    refine (CI.out w1).mono ?_
    rintro e w2 ⟨rfl, hb2⟩
    have HB2 := Lib.hid (HB1.out.trans (hb2.mono HB1.out.size))
    have HBV2 := Lib.hid (HBV.out.below hb2)
    clear hb2 HBV HB1 CI
    cases hx : okx m x
    · have HG : Hid (getV m x (0, F, l) = (0, 1)) := by unfold Hid getV; rw [if_neg (by simp), if_pos hx]
      go_wp2_with fail
      go_ret2
      rw [HG.out]
      exact ⟨rfl, HB2.out⟩
    · have hxb := okx_bd hx
      have HG : Hid (getV m x (0, F, l) = (((stOf l (x - 1).toNat : Nat) : Int), (0 : Int))) := by unfold Hid getV; rw [if_neg (by simp), if_neg (by rw [hx]; simp)]
      obtain ⟨X, rfl⟩ := Int.eq_ofNat_of_zero_le (show 0 ≤ x by omega)
      have CP := place_c X w2 (by have := HMB.out; omega)
      obtain ⟨i, hi⟩ : ∃ i, i = (X - 1) / 4 := ⟨_, rfl⟩
      have hil : i < l.length := by have := HL.out; have := HSZ.out; have := HMB.out; omega
      have hc := HBV2.out.cell i hil
      have hli : (i : Int) < (l.length : Int) := by omega
      have HST : Hid (stOf l ((X : Int) - 1).toNat = l[i].toNat / 4 ^ ((X - 1) % 4) % 4) := by
        unfold Hid stOf
        have e1 : ((X : Int) - 1).toNat = X - 1 := by omega
        rw [e1, ← hi, List.getD_eq_getElem?_getD, List.getElem?_eq_getElem hil]
        rfl
      rw [HST.out] at HG
      obtain ⟨c, hcc⟩ : ∃ c : Fin 256, (c : Nat) = l[i].toNat := ⟨⟨l[i].toNat, l[i].toNat_lt⟩, rfl⟩
      rw [← hcc] at HG hc
      rw [← hi] at CP
      have hk : (X - 1) % 4 = 0 ∨ (X - 1) % 4 = 1 ∨ (X - 1) % 4 = 2 ∨ (X - 1) % 4 = 3 := by omega
      have hc256 := c.isLt
      clear hcc hi hil HST hxb hx HL HSZ HMB HBV2
      rcases hk with hk | hk | hk | hk
      · rw [hk] at CP HG
        have CPH := Lib.hid CP
        have HQ := Lib.hid (get0 c)
        clear CP hk
        go_wp2_with fail
        refine CPH.out.mono ?_
        rintro e w3 ⟨rfl, rfl⟩
        go_wp2_with fail
        go_ret2
        rw [HG.out, ← HQ.out]
        exact ⟨rfl, HB2.out⟩
      · rw [hk] at CP HG
        have CPH := Lib.hid CP
        have HQ := Lib.hid (get1 c)
        clear CP hk
        go_wp2_with fail
        refine CPH.out.mono ?_
        rintro e w3 ⟨rfl, rfl⟩
        go_wp2_with fail
        go_ret2
        rw [HG.out, ← HQ.out]
        exact ⟨rfl, HB2.out⟩
      · rw [hk] at CP HG
        have CPH := Lib.hid CP
        have HQ := Lib.hid (get2 c)
        clear CP hk
        go_wp2_with fail
        refine CPH.out.mono ?_
        rintro e w3 ⟨rfl, rfl⟩
        go_wp2_with fail
        go_ret2
        rw [HG.out, ← HQ.out]
        exact ⟨rfl, HB2.out⟩
      · rw [hk] at CP HG
        have CPH := Lib.hid CP
        have HQ := Lib.hid (get3 c)
        clear CP hk
        go_wp2_with fail
        refine CPH.out.mono ?_
        rintro e w3 ⟨rfl, rfl⟩
        go_wp2_with fail
        go_ret2
        rw [HG.out, ← HQ.out]
        exact ⟨rfl, HB2.out⟩
  · have hE1 : (E != 0) = true := by rw [bne_iff_ne]; exact hE
    have HG : Hid (getV m x (E, F, l) = (0, E)) := by unfold Hid getV; rw [if_pos hE]
    clear HV HOK
    go_wp2_with fail
    go_ret2
    rw [HG.out]
    exact ⟨rfl, HB1.out⟩
end Go.Proofs.Ytpmhcpphbilokaa
