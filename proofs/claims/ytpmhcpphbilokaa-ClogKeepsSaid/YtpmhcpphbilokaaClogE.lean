/- Statuses: a page that may be one of statuses is opened. -/
import Derived.Test.YtpmhcpphbilokaaClogD
import Derived.Laws.IdiomStrings
namespace Go.Proofs.Ytpmhcpphbilokaa
open Go.RowKit
set_option linter.unusedSimpArgs false
set_option maxRecDepth 100000
attribute [local irreducible] wpQuiet

/-- '[]byte(s)' lies in a new block. -/
theorem bytes_new (w : World) (s : ByteArray) (c : Nat) (e : TypeId) : BV (w.alloc (.cells (bytesRow s c) e ((bytesRow s c).size, (bytesRow s c).size + 1))).drew w.heap.size s.data.toList ∧ Below w.heap.size w (w.alloc (.cells (bytesRow s c) e ((bytesRow s c).size, (bytesRow s c).size + 1))).drew := by
  have hl : (bytesRow s c).size = s.size + (c - s.size) := by simp [bytesRow]
  have hg : (w.alloc (.cells (bytesRow s c) e ((bytesRow s c).size, (bytesRow s c).size + 1))).drew.heap[w.heap.size]? = some (.cells (bytesRow s c) e ((bytesRow s c).size, (bytesRow s c).size + 1)) := by
    show (w.heap.push _)[w.heap.size]? = _
    simp
  have hsz : s.data.toList.length = s.size := Array.length_toList
  refine ⟨⟨?_, ?_, ?_⟩, ?_⟩
  · intro j hj
    rw [hsz] at hj
    simp only [World.cell?, hg]
    have h1 : (bytesRow s c)[j]? = some (.int .u8 s[j].toNat) := by
      unfold bytesRow
      rw [Array.getElem?_append_left (by simpa using hj)]
      simp [hj]
      rfl
    simpa [ByteArray.getElem_eq_getElem_data] using h1
  · intro j hj
    rw [hsz] at hj
    simp only [World.frozen?, hg]
    simp
    omega
  · show w.heap.size < (w.heap.push _).size
    simp
  · have h := (Below.refl w.heap.size w).alloc (Nat.le_refl _) (.cells (bytesRow s c) e ((bytesRow s c).size, (bytesRow s c).size + 1))
    exact ⟨h.os, h.tape, h.output, h.size, h.block⟩

theorem conv_new (w : World) (s : ByteArray) : ∃ cp w', (convert 9 55 (.string s)).run Try.prog w = .ok (.slice (some ⟨w.heap.size, 0, none⟩) s.size cp) w' ∧ BV w' w.heap.size s.data.toList ∧ Below w.heap.size w w' :=
  ⟨_, _, run_bytes_of_string (P := Try.prog) w 9 55 5 s Try.underlying9 Try.underlying55 Try.underlying5, (bytes_new w s _ _).1, (bytes_new w s _ _).2⟩

set_option maxHeartbeats 2000000 in
theorem open_good (m a0 a1 a2 a3 : Int) (h : ByteArray) (ao : Option Addr) (len cap : Nat) (S : Nat → ByteArray) (w : World) (hm : okm m = true) (hs : StrsIn w ao len S) (hb : okpg m a0 a1 a2 a3 h len S = true) :
    Calls Try.prog 30 #[.int .i64 m, .agg #[.int .i64 a0, .int .i64 a1, .int .i64 a2, .int .i64 a3, .string h, .slice ao len cap]] w fun e w' => OpenP w (opV m a0 a1 a2 a3 h len S) e w' := by
  have HO : Hid (opV m a0 a1 a2 a3 h len S = if endV (numOut (S 0) m).2.1.size (numOut (S 0) m).2.2 = 0 ∧ (numOut (S 0) m).1 ≠ 0 ∧ tailok m (S 1).data.toList = true then (0, (numOut (S 0) m).1, (S 1).data.toList) else (31, 0, [])) := by unfold Hid opV; rw [if_neg (by rw [hm]; simp), if_neg (by rw [hb]; simp)]
  have hbb := hb
  simp only [okpg, Bool.and_eq_true, beq_iff_eq, decide_eq_true_eq] at hbb
  obtain ⟨⟨⟨⟨⟨⟨rfl, q2⟩, rfl⟩, rfl⟩, q5⟩, rfl⟩, q7⟩ := hbb
  have t2 : decide (a0 < 0) = false := decide_eq_false (by omega)
  have t5 : h.toList.isEmpty = true := by rw [empty_iff]; exact decide_eq_true q5
  have t7 : (((S 1).size : Int) != (sz m : Int)) = false := by rw [bne_eq_false_iff_eq]; omega
  have CZ := Lib.hid (fun w' => size_c m w' hm)
  obtain ⟨wb, hwb⟩ : ∃ wb, wb = w.alloc (.cells #[.int .i64 a0, .int .i64 1, .int .i64 0, .int .i64 0, .string h, .slice ao 2 cap] 25) := ⟨_, rfl⟩
  obtain ⟨bt, hbt⟩ : ∃ bt, bt = w.heap.size := ⟨_, rfl⟩
  have H0 : Hid (PB w wb bt a0 1 0 0 h ao 2 cap S) := by rw [hwb, hbt]; exact PB.new w a0 1 0 0 h ao 2 cap S hs
  have HWB := Lib.hid hwb
  have HBT := Lib.hid hbt
  have HM := Lib.hid hm
  have HQ7 := Lib.hid q7
  clear hwb hbt hs hb hm q2 q5 q7
  go_enter Try.func30, Try.ntmps30
  go_wp2_with fail
  rw [← HWB.out, ← HBT.out]
  clear HWB
  refine (isMod_c m _).mono ?_
  rintro e w1 ⟨rfl, hb⟩
  rw [HM.out]
  have H1 := Lib.hid (H0.out.below hb)
  clear hb H0
  obtain ⟨c0, c1, c2, c3, c4, c5⟩ := H1.out.cell
  obtain ⟨b, off, rfl, hc1, _⟩ := H1.out.it 1 (by omega)
  have hc0 := itAt H1.out.it (i := 0) (by omega)
  go_upto_region 3 with (fail)
  go_quiet (first | (go_at_call 27; refine (CZ.out _).mono ?_; rintro e wz ⟨rfl, rfl⟩; exact ⟨rfl, _, rfl⟩))
  clear c0 c1 c2 c3 c4 c5 hc0 hc1 t2 t5 t7 CZ
  have H2 : Hid (PB w (w1.drewN nq) bt a0 1 0 0 h (some ⟨b, off, none⟩) 2 cap S) := H1.out.below (below_drewN _ _)
  generalize w1.drewN nq = w2 at *
  clear H1
  obtain ⟨c0, c1, c2, c3, c4, c5⟩ := H2.out.cell
  have hc0 := itAt H2.out.it (i := 0) (by omega)
  rw [Nat.add_zero] at hc0
  have hc1 := itAt H2.out.it (i := 1) (by omega)
  go_wp2_with fail
  refine (read_c _ _).mono ?_
  rintro e w3 ⟨rfl, hr3, hb3, _⟩
  have HLT : Hid (bt < w2.heap.size) := H2.out.tb.lt
  have H3 := Lib.hid (H2.out.below hb3)
  have HR3 := Lib.hid hr3
  have HW2 : Hid (w.heap.size ≤ w2.heap.size) := H2.out.bel.size
  have HBL : Hid (b < w2.heap.size) := World.block_lt_of_cell? w2 _ hc1
  clear hr3 hb3 H2 c0 c1 c2 c3 c4 c5 hc0 hc1
  generalize w2.heap.size = br at *
  go_wp2_with fail
  refine (num_r br (S 0) m w3 HR3.out).mono ?_
  rintro e w4 ⟨rfl, hr4, hg4⟩
  have HR4 := Lib.hid hr4
  have H4 : Hid (PK w4 bt a0 1 0 0 h (.slice (some ⟨b, off, none⟩) 2 cap)) := H3.out.tb.grown hg4 (by have := HLT.out; simp; omega)
  have c5 := H4.out.cell.2.2.2.2.2
  have HB4 := Lib.hid (below_own H3.out.bel HW2.out hg4)
  have hc1 := grown_at hg4 (itAt H3.out.it (i := 1) (by omega)) (by have := HBL.out; simp; omega)
  clear hr4 hg4 HR3 H3 H4
  generalize numOut (S 0) m = o at *
  obtain ⟨f, r, c⟩ := o
  simp only at HO HR4 ⊢
  obtain ⟨cp, w5, hconv, hv5, hb5⟩ := conv_new w4 (S 1)
  have hsz : 4 ≤ sz m := (sz_int HM.out).2.1
  obtain ⟨k, hk⟩ : ∃ k, (S 1).size = k + 1 := ⟨(S 1).size - 1, by have := HQ7.out; omega⟩
  have HK := Lib.hid hk
  rw [hk] at hconv
  have hll : (S 1).data.toList.length = k + 1 := by rw [← hk]; exact Array.length_toList
  have hy := hv5.cell k (by omega)
  have hY : Hid ((S 1).data.toList.getLastD 0 = (S 1).data.toList[k]) := by
    unfold Hid
    have e : (S 1).data.toList.length - 1 = k := by omega
    rw [List.getLastD_eq_getLast?, List.getLast?_eq_getElem?, e, List.getElem?_eq_getElem (show k < (S 1).data.toList.length by omega)]
    rfl
  obtain ⟨y, hyy⟩ : ∃ y, y = (S 1).data.toList[k] := ⟨_, rfl⟩
  rw [← hyy] at hy hY
  have HV5 := Lib.hid hv5
  have HR5 := Lib.hid (HR4.out.below hb5)
  have HB5 := Lib.hid (HB4.out.trans (hb5.mono HB4.out.size))
  have HG : Hid (w.heap.size ≤ w4.heap.size) := HB4.out.size
  have HLL := Lib.hid hll
  clear hv5 hb5 hyy HR4 HB4 hsz hk hll
  generalize w4.heap.size = g at *
  clear HLT HW2 HBL
  go_wp2_with fail
  clear hconv
  refine (end_r br r c w5 HR5.out).mono ?_
  rintro e w6 ⟨rfl, rfl⟩
  have hkb : k ≤ 255 := by have := HK.out; have := HQ7.out; have := (sz_int HM.out).2.2; omega
  have hbm := okm_bd HM.out
  have hr4 : m.tmod 4 = 0 ∨ m.tmod 4 = 1 ∨ m.tmod 4 = 2 ∨ m.tmod 4 = 3 := by rw [Int.tmod_eq_emod_of_nonneg (by omega)]; omega
  have HTE : Hid (m.tmod 4 = m % 4) := Int.tmod_eq_emod_of_nonneg (by omega)
  generalize endV r.size c = E at *
  by_cases hE : E = 0
  · subst hE
    by_cases hf : f = 0
    · subst hf
      go_wp2_with fail
      go_ret3
      rw [HO.out, if_neg (fun q => q.2.1 rfl)]
      exact ⟨⟨_, rfl, fun q => by cases q⟩, HB5.out⟩
    · have hf1 : (f == 0) = false := by rw [beq_eq_false_iff_ne]; exact hf
      rcases hr4 with hr4 | hr4 | hr4 | hr4
      · have HOK : Hid (opV m a0 1 0 0 h 2 S = (0, f, (S 1).data.toList)) := by
          unfold Hid; rw [HO.out, if_pos ⟨rfl, hf, by unfold tailok; rw [← HTE.out, hr4]; rfl⟩]
        go_wp2_with fail
        go_ret3
        rw [HOK.out]
        exact ⟨⟨_, rfl, fun _ => ⟨g, cp, by rw [HLL.out]; rfl, HG.out, HV5.out⟩⟩, HB5.out⟩
      · have HTK : Hid (tailok m (S 1).data.toList = decide (y.toNat / 4 = 0)) := by
          unfold Hid tailok; rw [hY.out, ← HTE.out, hr4]; simp
        by_cases hz : y.toNat / 4 = 0
        · have HOK : Hid (opV m a0 1 0 0 h 2 S = (0, f, (S 1).data.toList)) := by
            unfold Hid; rw [HO.out, if_pos ⟨rfl, hf, by rw [HTK.out]; exact decide_eq_true hz⟩]
          have hz2 : ((y.toNat : Int) / 4 != 0) = false := by rw [bne_eq_false_iff_eq]; omega
          clear hz
          go_wp2_with fail
          go_ret3
          rw [HOK.out]
          exact ⟨⟨_, rfl, fun _ => ⟨g, cp, by rw [HLL.out]; rfl, HG.out, HV5.out⟩⟩, HB5.out⟩
        · have HOK : Hid (opV m a0 1 0 0 h 2 S = (31, 0, [])) := by
            unfold Hid; rw [HO.out, if_neg]; rintro ⟨_, _, q⟩; rw [HTK.out] at q; exact hz (of_decide_eq_true q)
          have hz2 : ((y.toNat : Int) / 4 != 0) = true := by rw [bne_iff_ne]; omega
          clear hz
          go_wp2_with fail
          go_ret3
          rw [HOK.out]
          exact ⟨⟨_, rfl, fun q => by cases q⟩, HB5.out⟩
      · have HTK : Hid (tailok m (S 1).data.toList = decide (y.toNat / 16 = 0)) := by
          unfold Hid tailok; rw [hY.out, ← HTE.out, hr4]; simp
        by_cases hz : y.toNat / 16 = 0
        · have HOK : Hid (opV m a0 1 0 0 h 2 S = (0, f, (S 1).data.toList)) := by
            unfold Hid; rw [HO.out, if_pos ⟨rfl, hf, by rw [HTK.out]; exact decide_eq_true hz⟩]
          have hz2 : ((y.toNat : Int) / 16 != 0) = false := by rw [bne_eq_false_iff_eq]; omega
          clear hz
          go_wp2_with fail
          go_ret3
          rw [HOK.out]
          exact ⟨⟨_, rfl, fun _ => ⟨g, cp, by rw [HLL.out]; rfl, HG.out, HV5.out⟩⟩, HB5.out⟩
        · have HOK : Hid (opV m a0 1 0 0 h 2 S = (31, 0, [])) := by
            unfold Hid; rw [HO.out, if_neg]; rintro ⟨_, _, q⟩; rw [HTK.out] at q; exact hz (of_decide_eq_true q)
          have hz2 : ((y.toNat : Int) / 16 != 0) = true := by rw [bne_iff_ne]; omega
          clear hz
          go_wp2_with fail
          go_ret3
          rw [HOK.out]
          exact ⟨⟨_, rfl, fun q => by cases q⟩, HB5.out⟩
      · have HTK : Hid (tailok m (S 1).data.toList = decide (y.toNat / 64 = 0)) := by
          unfold Hid tailok; rw [hY.out, ← HTE.out, hr4]; simp
        by_cases hz : y.toNat / 64 = 0
        · have HOK : Hid (opV m a0 1 0 0 h 2 S = (0, f, (S 1).data.toList)) := by
            unfold Hid; rw [HO.out, if_pos ⟨rfl, hf, by rw [HTK.out]; exact decide_eq_true hz⟩]
          have hz2 : ((y.toNat : Int) / 64 != 0) = false := by rw [bne_eq_false_iff_eq]; omega
          clear hz
          go_wp2_with fail
          go_ret3
          rw [HOK.out]
          exact ⟨⟨_, rfl, fun _ => ⟨g, cp, by rw [HLL.out]; rfl, HG.out, HV5.out⟩⟩, HB5.out⟩
        · have HOK : Hid (opV m a0 1 0 0 h 2 S = (31, 0, [])) := by
            unfold Hid; rw [HO.out, if_neg]; rintro ⟨_, _, q⟩; rw [HTK.out] at q; exact hz (of_decide_eq_true q)
          have hz2 : ((y.toNat : Int) / 64 != 0) = true := by rw [bne_iff_ne]; omega
          clear hz
          go_wp2_with fail
          go_ret3
          rw [HOK.out]
          exact ⟨⟨_, rfl, fun q => by cases q⟩, HB5.out⟩
  · have hE1 : (E != 0) = true := by rw [bne_iff_ne]; exact hE
    go_wp2_with fail
    go_ret3
    rw [HO.out, if_neg (fun q => hE q.1)]
    exact ⟨⟨_, rfl, fun q => by cases q⟩, HB5.out⟩

theorem open_c (m a0 a1 a2 a3 : Int) (h : ByteArray) (ao : Option Addr) (len cap : Nat) (S : Nat → ByteArray) (w : World) (hs : StrsIn w ao len S) :
    Calls Try.prog 30 #[.int .i64 m, .agg #[.int .i64 a0, .int .i64 a1, .int .i64 a2, .int .i64 a3, .string h, .slice ao len cap]] w fun e w' => OpenP w (opV m a0 a1 a2 a3 h len S) e w' := by
  cases hm : okm m
  · exact open_mod m a0 a1 a2 a3 h ao len cap S w hm
  · cases hb : okpg m a0 a1 a2 a3 h len S
    · exact open_bad m a0 a1 a2 a3 h ao len cap S w hm hs hb
    · exact open_good m a0 a1 a2 a3 h ao len cap S w hm hs hb
end Go.Proofs.Ytpmhcpphbilokaa
