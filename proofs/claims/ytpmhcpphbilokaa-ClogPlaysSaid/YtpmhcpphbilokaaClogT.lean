/- Statuses: the reference takes a page that may be one of statuses. -/
import Derived.Test.YtpmhcpphbilokaaClogS
namespace Go.Proofs.Ytpmhcpphbilokaa
open Go.RowKit
set_option linter.unusedSimpArgs false
set_option maxRecDepth 100000

theorem dropS_zero (s : ByteArray) : dropS s 0 = s := by
  unfold dropS
  rw [List.drop_zero]
theorem dropS_sz (s : ByteArray) (a : Nat) : (dropS s a).size = s.size - a := by
  unfold dropS
  rw [size_arr, List.length_drop]
  rfl
theorem rfv_new (w : World) (s : ByteArray) : RfV (w.alloc (.cells #[.string s, .int .i64 0, .int .i64 0] 91)) w.heap.size s 0 0 := by
  refine ⟨?_, ?_, ?_, ?_, ?_, Nat.zero_le _⟩
  all_goals simp [go_sem]
theorem end_eq {s r : ByteArray} {a : Nat} {c : Int} (h : c = 0 → r = dropS s a) : endV (leftV s a c) c = endV r.size c := by
  unfold endV leftV
  by_cases hc : c = 0
  · subst hc
    rw [h rfl, dropS_sz]
    simp
  · simp [hc]

theorem tail_all {m : Int} {l : List UInt8} (hm : okm m = true) (hl : l.length = sz m) (hz : ∀ j, m.toNat ≤ j → j < 4 * sz m → stOf l j = 0) : tailok m l = true := by
  have h := tail_yes (f := stOf l) hm ⟨stOf_le l, fun j hj => by
    by_cases h4 : j < 4 * sz m
    · exact hz j hj h4
    · unfold stOf
      rw [List.getD_eq_getElem?_getD, List.getElem?_eq_none (by omega)]
      simp⟩
  rw [← hl, bsOf_st] at h
  exact h

set_option maxHeartbeats 4000000 in
theorem take_good (m a0 a1 a2 a3 : Int) (h : ByteArray) (ao : Option Addr) (len cap : Nat) (S : Nat → ByteArray) (w : World) (hm : okm m = true) (hs : StrsIn w ao len S) (hb : okpg m a0 a1 a2 a3 h len S = true) :
    Calls Try.prog 32 #[.int .i64 m, .agg #[.int .i64 a0, .int .i64 a1, .int .i64 a2, .int .i64 a3, .string h, .slice ao len cap]] w fun e w' => TakeP w m (opV m a0 a1 a2 a3 h len S) e w' := by
  have HO : Hid (opV m a0 a1 a2 a3 h len S = if endV (numOut (S 0) m).2.1.size (numOut (S 0) m).2.2 = 0 ∧ (numOut (S 0) m).1 ≠ 0 ∧ tailok m (S 1).data.toList = true then (0, (numOut (S 0) m).1, (S 1).data.toList) else (31, 0, [])) := by unfold Hid opV; rw [if_neg (by rw [hm]; simp), if_neg (by rw [hb]; simp)]
  have hbb := hb
  simp only [okpg, Bool.and_eq_true, beq_iff_eq, decide_eq_true_eq] at hbb
  obtain ⟨⟨⟨⟨⟨⟨rfl, q2⟩, rfl⟩, rfl⟩, q5⟩, rfl⟩, q7⟩ := hbb
  have t2 : decide (a0 < 0) = false := decide_eq_false (by omega)
  have t5 : h.toList.isEmpty = true := by rw [empty_iff]; exact decide_eq_true q5
  have hmb := okm_bd hm
  obtain ⟨n, hn⟩ : ∃ n, n = sz m := ⟨_, rfl⟩
  have hz : (m + 3) / 4 = (n : Int) := by rw [hn]; exact (sz_int hm).1.symm
  have hn2 : 4 ≤ n ∧ n ≤ 256 := by rw [hn]; exact (sz_int hm).2
  have hsn : (S 1).size = n := by rw [hn]; exact q7
  obtain ⟨wb, hwb⟩ : ∃ wb, wb = w.alloc (.cells #[.int .i64 a0, .int .i64 1, .int .i64 0, .int .i64 0, .string h, .slice ao 2 cap] 25) := ⟨_, rfl⟩
  obtain ⟨bt, hbt⟩ : ∃ bt, bt = w.heap.size := ⟨_, rfl⟩
  have H1 : Hid (PB w wb bt a0 1 0 0 h ao 2 cap S) := by rw [hwb, hbt]; exact PB.new w a0 1 0 0 h ao 2 cap S hs
  have HWB := Lib.hid hwb
  have HBT := Lib.hid hbt
  have HM := Lib.hid hm
  have HNZ := Lib.hid hn
  clear hwb hbt hs hb q2 q5 q7 hn
  go_enter Try.func32, Try.ntmps32
  go_wp2_with fail
  rw [← HWB.out, ← HBT.out]
  clear HWB
  refine (right_c m _).mono ?_
  rintro e w1 ⟨rfl, rfl⟩
  rw [HM.out]
  obtain ⟨c0, c1, c2, c3, c4, c5⟩ := H1.out.cell
  obtain ⟨b, off, rfl, hc1, _⟩ := H1.out.it 1 (by omega)
  have hc0 := itAt H1.out.it (i := 0) (by omega)
  rw [Nat.add_zero] at hc0
  have hs0 := (H1.out.it 0 (by omega)).choose_spec.choose_spec.2.2
  have HRN := Lib.hid (rfv_new wb (S 0))
  have HBX : Hid (PB w (wb.alloc (.cells #[.string (S 0), .int .i64 0, .int .i64 0] 91)) bt a0 1 0 0 h (some ⟨b, off, none⟩) 2 cap S) := H1.out.below ((Below.refl _ _).alloc (Nat.le_refl _) _)
  have HLT : Hid (bt < wb.heap.size ∧ b < wb.heap.size ∧ w.heap.size ≤ wb.heap.size) := ⟨H1.out.tb.lt, World.block_lt_of_cell? wb _ hc1, H1.out.bel.size⟩
  go_wp2_with fail
  clear c0 c1 c2 c3 c4 c5 hc0 hc1 t2 t5 H1
  generalize wb.alloc (.cells #[.string (S 0), .int .i64 0, .int .i64 0] 91) = w2 at *
  generalize wb.heap.size = bx at *
  refine (rfnum_z bx (S 0) 0 m w2 HRN.out hs0 (by omega)).mono ?_
  rw [dropS_zero]
  rintro e w3 ⟨rfl, ⟨a', hr3, hra⟩, hg3⟩
  have HR3 := Lib.hid hr3
  have HEE := Lib.hid (end_eq hra)
  have hnl := numOut_le (S 0) m
  have HB3 : Hid (PB w w3 bt a0 1 0 0 h (some ⟨b, off, none⟩) 2 cap S) := ⟨HBX.out.tb.grown hg3 (by have := HLT.out.1; simp; omega), HBX.out.it.grown hg3 (fun b' off' e => by injection e with e; injection e with e1 _; have := HLT.out.2.1; omega), below_own HBX.out.bel HLT.out.2.2 hg3⟩
  clear hr3 hg3 HRN HBX hra
  generalize numOut (S 0) m = o at *
  obtain ⟨f, r, c⟩ := o
  simp only at HO HR3 HEE hnl ⊢
  go_wp2_with fail
  refine (rend_c bx (S 0) a' c w3 HR3.out).mono ?_
  rw [HEE.out]
  rintro e w4 ⟨rfl, hb4⟩
  have HB4 := Lib.hid (HB3.out.below hb4)
  clear hb4 HB3 HR3 HEE
  generalize endV r.size c = E at *
  by_cases hE : E = 0
  rotate_left
  · have hE1 : (E != 0) = true := by rw [bne_iff_ne]; exact hE
    go_wp2_with fail
    go_ret3
    rw [HO.out, if_neg (fun q => hE q.1)]
    exact ⟨⟨_, rfl, fun q => by cases q⟩, HB4.out.bel⟩
  subst hE
  by_cases hf : f = 0
  · subst hf
    go_wp2_with fail
    go_ret3
    rw [HO.out, if_neg (fun q => q.2.1 rfl)]
    exact ⟨⟨_, rfl, fun q => by cases q⟩, HB4.out.bel⟩
  have hf1 : decide (f < 1) = false := decide_eq_false (by omega)
  obtain ⟨l, hl⟩ : ∃ l, l = (S 1).data.toList := ⟨_, rfl⟩
  have HLS : Hid (l.length = n) := by rw [hl, ← hsn]; exact Array.length_toList
  have HO2 : Hid (opV m a0 1 0 0 h 2 S = if tailok m l = true then (0, f, l) else (31, 0, [])) := by
    unfold Hid; rw [HO.out, hl]
    by_cases ht : tailok m (S 1).data.toList = true
    · rw [if_pos ⟨rfl, hf, ht⟩, if_pos ht]
    · rw [if_neg (fun q => ht q.2.2), if_neg ht]
  have hgl : ∀ q (hq : q < (S 1).size), (S 1)[q].toNat = (l.getD q 0).toNat := by
    intro q hq
    have hq2 : q < l.length := by rw [HLS.out, ← hsn]; exact hq
    rw [List.getD_eq_getElem?_getD, List.getElem?_eq_getElem hq2, Option.getD_some]
    subst hl
    rfl
  have HGL := Lib.hid hgl
  clear hl hgl HO hf hnl
  go_wp2_with fail
  obtain ⟨M, hM⟩ : ∃ M : Nat, m = (M : Int) := Int.eq_ofNat_of_zero_le (by omega)
  have HM2 := Lib.hid hM
  have hMN : M ≤ 4 * n := by omega
  have hM16 : 16 ≤ M ∧ M ≤ 1024 := by omega
  clear hM
  go_loopw [9, 10] (fun o i wr => ∃ k : Nat, k ≤ 4 * n ∧ i = .int .i64 k ∧ Hid (RB w4 30 wr o (stL (stOf l) (min k M))) ∧ Hid (∀ j, M ≤ j → j < k → stOf l j = 0)) (fun _ i _ => 4 * n - (intOf i).toNat)
  case atStart => exact ⟨0, Nat.zero_le _, rfl, by unfold Hid; rw [Nat.zero_min]; exact RB.start w4 _, fun j _ hj => by omega⟩
  case round =>
    obtain ⟨k, hk, rfl, HRB, HZ⟩ := hrel
    have c5 := bel_at HRB.out.bel HB4.out.cell.2.2.2.2.2
    have hc1 := bel_at HRB.out.bel (itAt HB4.out.it (i := 1) (by omega))
    by_cases hlt : k < 4 * n
    · obtain ⟨q, hqe⟩ : ∃ q, q = k / 4 := ⟨_, rfl⟩
      obtain ⟨r, hre⟩ : ∃ r, r = k % 4 := ⟨_, rfl⟩
      have hq : q < (S 1).size := by omega
      have HC := Lib.hid (HGL.out q hq)
      have hs255 := (S 1)[q].toNat_lt
      have hq4 : (k : Int) / 4 = (q : Int) := by omega
      have hr4 : (k : Int) % 4 = (r : Int) := by omega
      have HST : Hid (stOf l k = (S 1)[q].toNat / 4 ^ r % 4) := by unfold Hid; rw [HC.out, hqe, hre]; rfl
      have hr4' : r < 4 := by omega
      have hql : (q : Int) < (n : Int) := by omega
      have hvle := stOf_le l k
      have HNXT : Hid (∀ v, v = stOf l k → v ≠ 0 → m ≤ (k : Int) → tailok m l = false) := by
        intro v hv hv0 hmk
        cases ht : tailok m l
        · rfl
        · have := tail_out HM.out (by rw [HLS.out, HNZ.out]) ht k (by omega)
          omega
      obtain ⟨v, hv⟩ : ∃ v, v = stOf l k := ⟨_, rfl⟩
      have HV := Lib.hid hv
      rw [← hv] at HST hvle
      clear hqe hre hv
      go_wp2_with fail
      clear c5 hc1
      obtain ⟨c, hc⟩ : ∃ c, c = (S 1)[q].toNat := ⟨_, rfl⟩
      rw [← hc] at HST hs255 ⊢
      clear hc HC
      go_loopw [11, 12] (fun a j wi => ∃ p : Nat, p ≤ r ∧ j = .int .i64 p ∧ a = .int .i64 (c / 4 ^ p : Nat) ∧ Hid (wr = wi)) (fun _ j _ => r - (intOf j).toNat)
      case atStart => exact ⟨0, Nat.zero_le _, rfl, by simp, rfl⟩
      case round =>
        obtain ⟨p, hp, rfl, rfl, HW⟩ := hrel
        obtain rfl := HW.out
        have hcp : c / 4 ^ p ≤ 255 := Nat.le_trans (Nat.div_le_self _ _) (by omega)
        by_cases hpr : p < r
        · have HPP : Hid (c / 4 ^ (p + 1) = c / 4 ^ p / 4) := by unfold Hid; rw [Nat.pow_succ, Nat.div_div_eq_div_mul]
          generalize c / 4 ^ p = y at *
          go_wp2_with fail
          go_roundw
          case rel => exact ⟨p + 1, by omega, by go_num, by rw [HPP.out]; exact congrArg (Value.int .i64) (by omega), by first | exact Lib.hid rfl | exact Lib.hid trivial⟩
          case measure => simp [intOf]; omega
        · have e : p = r := by omega
          subst e
          generalize c / 4 ^ p = y at *
          have hyv : ((y : Int) % 4) = (v : Int) := by have := HST.out; omega
          have HKM : Hid (stL (stOf l) (min (k + 1) M) = if k < M then stL (stOf l) (min k M) ++ [UInt8.ofNat v] else stL (stOf l) (min k M)) := by
            unfold Hid
            by_cases hkm : k < M
            · rw [if_pos hkm, Nat.min_eq_left (by omega), Nat.min_eq_left (by omega), stL_next, HV.out]
            · rw [if_neg hkm, Nat.min_eq_right (by omega), Nat.min_eq_right (by omega)]
          by_cases hkm : k < M
          · have hkm2 : (k : Int) < m := by have := HM2.out; omega
            have hl1 : (stL (stOf l) (min k M)).length + 1 ≤ 140737488355328 := by rw [stL_len]; omega
            have HK1 : Hid (stL (stOf l) (min (k + 1) M) = stL (stOf l) (min k M) ++ [UInt8.ofNat v]) := by unfold Hid; rw [HKM.out, if_pos hkm]
            have HZ2 : Hid (∀ j, M ≤ j → j < k + 1 → stOf l j = 0) := fun j h1 h2 => by omega
            clear HKM HZ hcp hp hpr
            go_wp2_with (first | (at_builtin; refine wpList_rb_by (w0 := w4) rfl (.tmp 105) (.tmp 107) 61 30 rfl Try.sty rfl HRB.out _ v ?_ (by omega) rfl hl1 ?_))
            · rfl
            intro ao nn cc w7 HA
            have HA7 := Lib.hid HA
            clear HA
            go_wp2_with fail
            go_roundw
            case rel => exact ⟨k + 1, by omega, by go_num, by unfold Hid; rw [HK1.out]; exact HA7.out, HZ2⟩
            case measure => simp [intOf]; omega
          · have hkm2 : ¬ ((k : Int) < m) := by have := HM2.out; omega
            by_cases hv0 : v = 0
            · have HK1 : Hid (stL (stOf l) (min (k + 1) M) = stL (stOf l) (min k M)) := by unfold Hid; rw [HKM.out, if_neg hkm]
              have HZ2 : Hid (∀ j, M ≤ j → j < k + 1 → stOf l j = 0) := fun j h1 h2 => by
                by_cases e : j = k
                · subst e; rw [← HV.out]; exact hv0
                · exact HZ.out j h1 (by omega)
              subst hv0
              clear HKM hcp hp hpr HZ
              go_wp2_with fail
              go_roundw
              case rel => exact ⟨k + 1, by omega, by go_num, by unfold Hid; rw [HK1.out]; exact HRB.out, HZ2⟩
              case measure => simp [intOf]; omega
            · have hv2 : ((v : Int) == 0) = false := by rw [beq_eq_false_iff_ne]; omega
              have HBAD : Hid (opV m a0 1 0 0 h 2 S = (31, 0, [])) := by unfold Hid; rw [HO2.out, HNXT.out v HV.out hv0 (by omega)]; rfl
              have HBL : Hid (Below w.heap.size w wr) := HB4.out.bel.trans (HRB.out.bel.mono HB4.out.bel.size)
              clear HKM hcp hp hpr HZ hv0 HNXT
              go_wp2_with fail
              go_ret3
              rw [HBAD.out]
              exact ⟨⟨_, rfl, fun q => by cases q⟩, HBL.out⟩
    · have e : k = 4 * n := by omega
      have HT : Hid (tailok m l = true) := by
        refine tail_all HM.out (by rw [HLS.out, HNZ.out]) (fun j h1 h2 => HZ.out j ?_ ?_)
        · have := HM2.out; omega
        · have := HNZ.out; omega
      have HOK : Hid (opV m a0 1 0 0 h 2 S = (0, f, l)) := by unfold Hid; rw [HO2.out, if_pos HT.out]
      have HBL : Hid (Below w.heap.size w wr) := HB4.out.bel.trans (HRB.out.bel.mono HB4.out.bel.size)
      have hmin : min k M = M := by omega
      rw [hmin] at HRB
      obtain ⟨g, cp, rfl, hg, hbv⟩ := own_bv HRB.out.own (by rw [stL_len]; omega)
      have HG : Hid (w.heap.size ≤ g) := Nat.le_trans HB4.out.bel.size hg
      have HBV := Lib.hid hbv
      rw [stL_len]
      clear hmin hg hbv HRB HZ HT HO2 e
      go_wp2_with fail
      go_ret3
      rw [HOK.out]
      exact ⟨⟨_, rfl, fun _ => ⟨g, cp, by rw [show m.toNat = M by have := HM2.out; omega]; rfl, HG.out, by rw [show m.toNat = M by have := HM2.out; omega]; exact HBV.out⟩⟩, HBL.out⟩

theorem taken_c (m a0 a1 a2 a3 : Int) (h : ByteArray) (ao : Option Addr) (len cap : Nat) (S : Nat → ByteArray) (w : World) (hs : StrsIn w ao len S) :
    Calls Try.prog 32 #[.int .i64 m, .agg #[.int .i64 a0, .int .i64 a1, .int .i64 a2, .int .i64 a3, .string h, .slice ao len cap]] w fun e w' => TakeP w m (opV m a0 a1 a2 a3 h len S) e w' := by
  cases hm : okm m
  · exact take_mod m a0 a1 a2 a3 h ao len cap S w hm
  · cases hb : okpg m a0 a1 a2 a3 h len S
    · exact take_bad m a0 a1 a2 a3 h ao len cap S w hm hs hb
    · exact take_good m a0 a1 a2 a3 h ao len cap S w hm hs hb
end Go.Proofs.Ytpmhcpphbilokaa
