/- Checks: the reference's small functions. -/
import Derived.Test.YtbhiijjnobcmoaaCkH
namespace Go.Proofs.Ytbhiijjnobcmoaa
open Go.RowKit
set_option linter.unusedSimpArgs false
set_option maxRecDepth 100000

theorem within_c (n lo hi : Int) (w : World) : Calls Try.prog 25 #[.int .i64 n, .int .i64 lo, .int .i64 hi] w fun e w' => e = .returned (.bool (inB n lo hi)) ∧ w = w' := by
  by_cases h : lo ≤ n
  · have hd : decide (lo ≤ n) = true := decide_eq_true h
    have HR : Hid (decide (n ≤ hi) = inB n lo hi) := by unfold Hid inB; rw [hd]; rfl
    clear hd
    go_enter Try.func25, Try.ntmps25
    go_wp2_with fail
    all_goals (go_ret; refine ⟨retB ?_, rfl⟩; rw [← HR.out])
  · have hd : decide (lo ≤ n) = false := decide_eq_false h
    have HR : Hid (inB n lo hi = false) := by unfold Hid inB; rw [hd]; rfl
    clear hd
    go_enter Try.func25, Try.ntmps25
    go_wp2_with fail
    all_goals (go_ret; refine ⟨retB ?_, rfl⟩; rw [HR.out])

theorem inB_bd {n lo hi : Int} (h : inB n lo hi = true) : lo ≤ n ∧ n ≤ hi := by
  unfold inB at h
  simpa [Bool.and_eq_true] using h

set_option maxHeartbeats 2000000 in
theorem rsound_c (a b c d : Int) (w : World) :
    Calls Try.prog 12 #[.agg #[.int .i64 a, .int .i64 b, .int .i64 c, .int .i64 d]] w fun e w' => e = .returned (.bool (okCfg a b c d)) ∧ Below w.heap.size w w' := by
  have HB : Hid (Below w.heap.size w (w.alloc (.cells #[.int .i64 a, .int .i64 b, .int .i64 c, .int .i64 d] 23))) := (Below.refl _ w).alloc (Nat.le_refl _) _
  obtain ⟨v1, h1⟩ : ∃ v1, v1 = inB a 4 64 := ⟨_, rfl⟩
  obtain ⟨v2, h2⟩ : ∃ v2, v2 = inB b 16 1024 := ⟨_, rfl⟩
  obtain ⟨v3, h3⟩ : ∃ v3, v3 = (bits BinOp.and IntKind.i64 b 1 == 0) := ⟨_, rfl⟩
  obtain ⟨v4, h4⟩ : ∃ v4, v4 = inB c 160 4096 := ⟨_, rfl⟩
  obtain ⟨v5, h5⟩ : ∃ v5, v5 = inB d 4 4096 := ⟨_, rfl⟩
  have HR : Hid (okCfg a b c d = (v1 && v2 && v3 && v4 && v5)) := by unfold Hid okCfg; rw [h1, h2, h3, h4, h5]
  have H1 := Lib.hid h1
  have H2 := Lib.hid h2
  have H4 := Lib.hid h4
  have H5 := Lib.hid h5
  have H3 := Lib.hid h3
  clear h1 h2 h3 h4 h5
  go_enter Try.func12, Try.ntmps12
  go_wp2_with fail
  refine (within_c a 4 64 _).mono ?_
  rintro e w1 ⟨rfl, rfl⟩
  rw [← H1.out]
  cases v1
  · go_wp2_with fail
    go_ret
    exact ⟨retB (by rw [HR.out]; rfl), HB.out⟩
  go_wp2_with fail
  refine (within_c b 16 1024 _).mono ?_
  rintro e w2 ⟨rfl, rfl⟩
  rw [← H2.out]
  cases v2
  · go_wp2_with fail
    go_ret
    exact ⟨retB (by rw [HR.out]; rfl), HB.out⟩
  obtain ⟨hb1, hb2⟩ := inB_bd H2.out.symm
  have q3 : (b % 2 == 0) = v3 := by rw [H3.out, and_one b (by omega) (by omega)]
  cases v3
  · go_wp2_with fail
    go_ret
    exact ⟨retB (by rw [HR.out]; rfl), HB.out⟩
  go_wp2_with fail
  refine (within_c c 160 4096 _).mono ?_
  rintro e w3 ⟨rfl, rfl⟩
  rw [← H4.out]
  cases v4
  · go_wp2_with fail
    go_ret
    exact ⟨retB (by rw [HR.out]; rfl), HB.out⟩
  go_wp2_with fail
  refine (within_c d 4 4096 _).mono ?_
  rintro e w4 ⟨rfl, rfl⟩
  rw [← H5.out]
  go_wp2_with fail
  go_ret
  exact ⟨retB (by rw [HR.out]; rfl), HB.out⟩

set_option maxHeartbeats 2000000 in
theorem rlayout_c (a b c d : Int) (w : World) :
    Calls Try.prog 10 #[.agg #[.int .i64 a, .int .i64 b, .int .i64 c, .int .i64 d]] w fun e w' => e = .returned (layV a b c d) ∧ Below w.heap.size w w' := by
  obtain ⟨wb, hwb⟩ : ∃ wb, wb = w.alloc (.cells #[.int .i64 a, .int .i64 b, .int .i64 c, .int .i64 d] 23) := ⟨_, rfl⟩
  obtain ⟨wc, hwc⟩ : ∃ wc, wc = wb.alloc (.cells #[.int .i64 0, .int .i64 0, .int .i64 0] 31) := ⟨_, rfl⟩
  obtain ⟨bb, hbb⟩ : ∃ bb, bb = w.heap.size := ⟨_, rfl⟩
  obtain ⟨br, hbr⟩ : ∃ br, br = w.heap.size + 1 := ⟨_, rfl⟩
  have e2 : br = wb.heap.size := by rw [hbr, hwb]; simp
  have q1 : Below w.heap.size w wb := by rw [hwb]; exact (Below.refl _ w).alloc (Nat.le_refl _) _
  have q2 : Below wb.heap.size wb wc := by rw [hwc]; exact (Below.refl _ wb).alloc (Nat.le_refl _) _
  have q3 : wb.heap[bb]? = some (.cells #[.int .i64 a, .int .i64 b, .int .i64 c, .int .i64 d] 23 (0, 0)) := by rw [hwb, hbb]; exact heap_alloc_new w _
  have HC : Hid (CF wc bb a b c d) := (q2.block bb (row_lt q3)).trans q3
  have HR : Hid (LY wc br 0 0 0) := by unfold Hid LY; rw [hwc, e2]; exact heap_alloc_new wb _
  have HB : Hid (Below w.heap.size w wc) := q1.trans (q2.mono q1.size)
  have HN : Hid (w.heap.size ≤ br) := by unfold Hid; omega
  clear e2 q1 q2 q3
  go_enter Try.func10, Try.ntmps10
  have kk := HC.out.cell
  rw [hwc, hwb, hbb] at kk
  obtain ⟨k0, k1, k2, k3⟩ := kk
  go_wp2_with fail
  clear k0 k1 k2 k3
  rw [← hwb, ← hwc, ← hbr, ← hbb]
  clear hwb hwc hbb hbr
  refine (rsound_c a b c d wc).mono ?_
  rintro e w1 ⟨rfl, hb1⟩
  have B1 := Lib.hid (HB.out.trans (hb1.mono HB.out.size))
  have C1 := Lib.hid (HC.out.below hb1)
  have R1 := Lib.hid (HR.out.below hb1)
  clear hb1 HB HC HR
  have hr := R1.out
  cases hok : okCfg a b c d
  · have HV : Hid (layV a b c d = .tuple #[.agg #[.int .i64 0, .int .i64 0, .int .i64 0], .int .i64 1]) := by unfold Hid layV; rw [hok]; rfl
    go_wp2_with (refine wpList_st_row rfl 31 _ _ rfl br rfl _ rfl hr (by kernel_rfl) rfl (by simp [Value.oneCell']) (fun w2 hp2 hg2 => ?_); have P2 := Lib.hid hp2; have B2 := Lib.hid (below_own B1.out HN.out hg2); clear hp2 hg2)
    refine ret_cell rfl br _ _ _ _ rfl P2.out Try.underlying31 rfl (by kernel_rfl) rfl ?_
    rw [HV.out]
    exact ⟨rfl, B2.out⟩
  · have HV : Hid (layV a b c d = .tuple #[.agg #[.int .i64 2, .int .i64 (2 + c), .int .i64 (2 + c + 8 * d)], .int .i64 0]) := by unfold Hid layV; rw [if_pos hok]
    obtain ⟨_, _, hc1, hd1⟩ := okCfg_bd hok
    obtain ⟨k0, k1, k2, k3⟩ := C1.out.cell
    clear hok
    go_wp2_with (refine wpList_st_row rfl 31 _ _ rfl br rfl _ rfl hr (by kernel_rfl) rfl (by simp [Value.oneCell']) (fun w2 hp2 hg2 => ?_); have P2 := Lib.hid hp2; have B2 := Lib.hid (below_own B1.out HN.out hg2); clear hp2 hg2)
    refine ret_cell rfl br _ _ _ _ rfl P2.out Try.underlying31 rfl (by kernel_rfl) rfl ?_
    rw [HV.out]
    exact ⟨rfl, B2.out⟩

theorem bigL_head (n k : Nat) : bigL n (k + 1) = UInt8.ofNat (n / 256 ^ k) :: bigL n k := by
  unfold bigL
  rw [List.range_succ_eq_map, List.map_cons, List.map_map]
  congr 1
  apply List.map_congr_left
  intro j hj
  have hj := List.mem_range.1 hj
  show bigD n (k + 1) (j + 1) = bigD n k j
  unfold bigD
  congr 3
  omega

set_option maxHeartbeats 2000000 in
theorem rbig_n (n k : Nat) (w : World) (hn : n ≤ 9223372036854775807) (hk : k ≤ 28) :
    Calls Try.prog 26 #[.int .i64 n, .int .i64 k] w fun e w' => e = .returned (.string ⟨(bigL n k).toArray⟩) ∧ Below w.heap.size w w' := by
  go_enter Try.func26, Try.ntmps26
  go_wp2_with fail
  go_loopw [0, 5, 6] (fun x s i wr => ∃ j : Nat, j ≤ k ∧ i = .int .i64 j ∧ x = .int .i64 (n / 256 ^ j : Nat) ∧ s = .string ⟨(bigL n j).toArray⟩ ∧ Hid (Below w.heap.size w wr)) (fun _ _ i _ => k - (intOf i).toNat)
  case atStart => exact ⟨0, by omega, rfl, by simp, rfl, Below.refl _ w⟩
  case round =>
    obtain ⟨j, hj, rfl, rfl, rfl, HB⟩ := hrel
    by_cases hlt : j < k
    · have HM : Hid (n / 256 ^ j / 256 = n / 256 ^ (j + 1)) := by
        unfold Hid; rw [Nat.div_div_eq_div_mul, ← Nat.pow_succ]
      have hm63 : n / 256 ^ j ≤ n := Nat.div_le_self _ _
      have HD := Lib.hid (bigL_head n j)
      generalize n / 256 ^ j = m at *
      obtain ⟨t, ht⟩ : ∃ t : ByteArray, t = ⟨(bigL n j).toArray⟩ := ⟨_, rfl⟩
      rw [← ht]
      have HT := Lib.hid ht
      have hts : t.size ≤ 28 := by rw [ht, bs_size]; simp [bigL]; omega
      obtain ⟨u, hu⟩ : ∃ u : ByteArray, u = ⟨[UInt8.ofNat m].toArray⟩ := ⟨_, rfl⟩
      have hus : u.size = 1 := by rw [hu, bs_size]; rfl
      have HU := Lib.hid hu
      clear ht hu
      have hmod : ((m : Int) % 256) = ((UInt8.ofNat m).toNat : Nat) := by
        have h : (UInt8.ofNat m).toNat = m % 256 := by simp
        rw [h]; omega
      have B2 := Lib.hid (HB.out.alloc HB.out.size (.cells #[.int .u8 ((m : Int) % 256)] 5))
      have HR := Lib.hid (run_string_cells (P := Try.prog) (wr.alloc (.cells #[.int .u8 ((m : Int) % 256)] 5)) 46 9 5 Try.underlying46 Try.underlying5 Try.underlying9 wr.heap.size 1 1 [UInt8.ofNat m] rfl (by
        intro q hq
        have hq0 : q = 0 := by simpa using hq
        subst hq0
        simp only [World.cell?, heap_alloc_new]
        rw [hmod]; rfl))
      clear hmod
      go_wp2_with fail
      rw [HR.out, ← HU.out]
      go_wp2_with fail
      go_roundw
      case rel => exact ⟨j + 1, by omega, by go_num, by rw [← HM.out]; rfl, by rw [HT.out, HU.out, bs_append, HD.out]; rfl, B2.out⟩
      case measure => simp [intOf]; omega
    · have e : j = k := by omega
      subst e
      generalize n / 256 ^ j = m at *
      go_wp2_with fail
      go_ret
      exact ⟨rfl, HB.out⟩
theorem rbig_i (x : Int) (k : Nat) (w : World) (h0 : 0 ≤ x) (hx : x ≤ 9223372036854775807) (hk : k ≤ 28) :
    Calls Try.prog 26 #[.int .i64 x, .int .i64 k] w fun e w' => e = .returned (.string ⟨(bg x k).toArray⟩) ∧ Below w.heap.size w w' := by
  obtain ⟨m, rfl⟩ : ∃ m : Nat, x = (m : Int) := ⟨x.toNat, by omega⟩
  have := rbig_n m k w (by omega) hk
  unfold bg
  simpa using this
theorem rbig_4 (x : Int) (w : World) (h0 : 0 ≤ x) (hx : x ≤ 9223372036854775807) : Calls Try.prog 26 #[.int .i64 x, .int .i64 4] w fun e w' => e = .returned (.string ⟨(bg x 4).toArray⟩) ∧ Below w.heap.size w w' := rbig_i x 4 w h0 hx (by omega)
theorem rbig_6 (x : Int) (w : World) (h0 : 0 ≤ x) (hx : x ≤ 9223372036854775807) : Calls Try.prog 26 #[.int .i64 x, .int .i64 6] w fun e w' => e = .returned (.string ⟨(bg x 6).toArray⟩) ∧ Below w.heap.size w w' := rbig_i x 6 w h0 hx (by omega)
theorem bg_zero : bg 0 28 = List.replicate 28 (0 : UInt8) := by decide
theorem rbig_0 (w : World) : Calls Try.prog 26 #[.int .i64 0, .int .i64 28] w fun e w' => e = .returned (.string ⟨(List.replicate 28 (0 : UInt8)).toArray⟩) ∧ Below w.heap.size w w' := by
  have h := rbig_i 0 28 w (by omega) (by omega) (by omega)
  rw [bg_zero] at h
  exact h

set_option maxHeartbeats 2000000 in
theorem rredo_c (at0 : Int) (ao : Option Addr) (len cap : Nat) (P L : Nat → Int) (w : World) (hlen : len ≤ 9223372036854775807) (ho : OwedIn w ao len P L) :
    Calls Try.prog 14 #[.int .i64 at0, .slice ao len cap] w fun e w' => e = .returned (.int .i64 (redoN at0 L len)) ∧ w = w' := by
  have HO := Lib.hid ho
  clear ho
  go_enter Try.func14, Try.ntmps14
  go_wp2_with fail
  go_loop [5, 6] (fun x i => ∃ k : Nat, k ≤ len ∧ x = .int .i64 (redoN at0 L k) ∧ i = .int .i64 k) (fun _ i => len - (intOf i).toNat)
  case atStart => exact ⟨0, by omega, rfl, rfl⟩
  case round =>
    obtain ⟨k, hk, rfl, rfl⟩ := hrel
    have HS : Hid (redoN at0 L (k + 1) = if 0 < L k then min (redoN at0 L k) (L k) else redoN at0 L k) := rfl
    by_cases hlt : k < len
    · obtain ⟨b, off, rfl, h0, h1⟩ := HO.out k hlt
      rw [← Nat.add_assoc] at h1
      generalize redoN at0 L k = r at *
      obtain ⟨x, hx⟩ : ∃ x, x = L k := ⟨_, rfl⟩
      rw [← hx] at h1 HS
      have HX := Lib.hid hx
      clear hx
      go_wp2_with fail
      · go_round
        case rel => exact ⟨k + 1, by omega, by rw [HS.out, if_pos (by assumption)], by go_num⟩
        case measure => simp [intOf]; omega
      · go_round
        case rel => exact ⟨k + 1, by omega, by rw [HS.out, if_neg (by omega)], by go_num⟩
        case measure => simp [intOf]; omega
    · have e : k = len := by omega
      subst e
      go_wp2_with fail
      go_ret
      exact ⟨rfl, rfl⟩
end Go.Proofs.Ytbhiijjnobcmoaa
