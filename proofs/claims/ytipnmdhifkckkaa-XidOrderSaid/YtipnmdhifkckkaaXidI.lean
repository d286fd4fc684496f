/- The walk of the law XidLeft. -/
import Derived.Test.YtipnmdhifkckkaaXidH
namespace Go.Proofs.Ytipnmdhifkckkaa
open Go.RowKit
set_option linter.unusedSimpArgs false

theorem xadd_zero {m x : Int} (hm : okm m = true) (hx : okx m x = true) : xadd m x 0 = x := by
  obtain ⟨a1, a2⟩ := okx_bd hx
  rw [xadd_val hm hx, Int.emod_eq_of_lt (by omega) (by omega)]; omega
theorem xadd_succ {m x : Int} (i : Int) (hm : okm m = true) (hx : okx m x = true) : xadd m (xadd m x i) 1 = xadd m x (i + 1) := by
  rw [xadd_val hm (xadd_ok hm hx), xadd_val hm hx, xadd_val hm hx]
  rw [show (x - 1 + i) % m + 1 - 1 + 1 = (x - 1 + i) % m + 1 from by omega, Int.emod_add_emod]
  congr 2; omega
theorem xgap_next {m f n i : Int} (hm : okm m = true) (hf : okx m f = true) (hn : okx m n = true) (h0 : 0 ≤ i) (h1 : xgap m f n + i < m) : xgap m f (xadd m n i) = xgap m f n + i := by
  obtain ⟨b1, b2, _⟩ := okm_bd hm
  rw [xgap_val hm hf hn] at *
  rw [xgap_val hm hf (xadd_ok hm hn), xadd_val hm hn]
  have e : (n - 1 + i) % m + 1 - f = (n - 1 + i) % m - (f - 1) := by omega
  have c1 := Int.emod_nonneg (n - f) (b := m) (by omega)
  rw [e, Int.emod_sub_emod, show n - 1 + i - (f - 1) = n - f + i from by omega, ← Int.emod_add_emod, Int.emod_eq_of_lt (by omega) h1]
theorem xleft_next {m f n i : Int} (hm : okm m = true) (hf : okx m f = true) (hn : okx m n = true) (h0 : 0 ≤ i) (h1 : i ≤ xleft m n f) : xleft m (xadd m n i) f = xleft m n f - i := by
  obtain ⟨b1, b2, _⟩ := okm_bd hm
  unfold xleft at *
  rw [xgap_next hm hf hn h0 (by omega)]
  omega
theorem xgap_self {m x : Int} (hm : okm m = true) (hx : okx m x = true) : xgap m x x = 0 := by
  rw [xgap_val hm hx hx]; simp
theorem xleft_self {m x : Int} (hm : okm m = true) (hx : okx m x = true) : xleft m x x = m / 2 - 2 := by
  unfold xleft; rw [xgap_self hm hx]; omega

set_option maxHeartbeats 1000000 in
theorem xidLeft_bad (m n f : Int) (w : World) (h : okn m n f = false) :
    Calls Try.prog 6 #[.int .i64 m, .int .i64 n, .int .i64 f] w fun e w' => e = .returned (.bool true) ∧ Below w.heap.size w w' := by
  go_enter Try.func6, Try.ntmps6
  go_wp2_with fail
  refine (new_no m n f _ h).mono ?_
  rintro e w1 ⟨rfl, hb1⟩
  go_wp2_with fail
  refine (awake_c _).mono ?_
  rintro e w2 ⟨rfl, hb2⟩
  go_wp2_with fail
  go_ret
  exact ⟨rfl, hb1.trans (hb2.mono hb1.size)⟩

set_option maxHeartbeats 2000000 in
theorem xidLeft_good (m n f : Int) (w : World) (h : okn m n f = true) :
    Calls Try.prog 6 #[.int .i64 m, .int .i64 n, .int .i64 f] w fun e w' => e = .returned (.bool true) ∧ Below w.heap.size w w' := by
  obtain ⟨hn, hf, hm, hl⟩ := okn_bd h
  obtain ⟨b1, b2, _⟩ := okm_bd hm
  obtain ⟨g1, g2, g3⟩ := xgap_bd m f n
  have HN := Lib.hid hn
  have HF := Lib.hid hf
  have HM := Lib.hid hm
  have HE : Hid (xleft m n f = m / 2 - 2 - xgap m f n) := rfl
  have l1 : 0 ≤ xleft m n f := by rw [HE.out]; omega
  have l2 : xleft m n f ≤ m / 2 - 2 := by rw [HE.out]; omega
  have H := Lib.hid h
  clear h hn hf hm hl g1 g2 g3
  generalize hL : xleft m n f = L at *
  have HL := Lib.hid hL
  clear hL
  go_enter Try.func6, Try.ntmps6
  go_wp2_with fail
  refine (new_yes m n f _ H.out).mono ?_
  rintro e w1 ⟨b, hb, rfl, hc1, hb1⟩
  have HC1 := Lib.hid hc1
  have HB1 := Lib.hid hb
  clear hc1 hb
  go_wp2_with fail
  refine (left_c b m n f _ HC1.out HM.out).mono ?_
  rw [HL.out]
  rintro e w2 ⟨rfl, hb2⟩
  have HC2 := Lib.hid (HC1.out.below hb2)
  have hB2 := hb1.trans (hb2.mono hb1.size)
  clear hb2
  go_wp2_with fail
  go_loopw [10] (fun i wr => ∃ k : Nat, (k : Int) ≤ L ∧ i = .int .i64 k ∧ Hid (Ctr wr b m (xadd m n k) f) ∧ Below w.heap.size w wr) (fun i _ => (L - intOf i).toNat)
  case atStart => exact ⟨0, by omega, rfl, by unfold Hid; rw [show ((0 : Nat) : Int) = 0 from rfl, xadd_zero HM.out HN.out]; exact HC2.out, hB2⟩
  case round =>
    obtain ⟨k, hk, rfl, HC, hB⟩ := hrel
    have HX : Hid (xleft m (xadd m n k) f = L - k) := by unfold Hid; rw [xleft_next HM.out HF.out HN.out (by omega) (by rw [HL.out]; omega), HL.out]
    by_cases hlt : (k : Int) < L
    · have HP : Hid (0 < xleft m (xadd m n k) f) := by unfold Hid; rw [HX.out]; omega
      go_wp2_with fail
      refine (take_yes b m (xadd m n k) f _ HC.out HM.out HP.out).mono ?_
      rintro e w3 ⟨rfl, hc3, hg3⟩
      have HC3 := Lib.hid hc3
      have hB3 := hB.grown hg3 hB.size (by rintro j hj; cases hj; exact HB1.out)
      clear hc3 hg3
      go_wp2_with fail
      refine (add_c m n k _).mono ?_
      rintro e w4 ⟨rfl, hb4⟩
      have HC4 := Lib.hid (HC3.out.below hb4)
      have hB4 := hB3.trans (hb4.mono hB3.size)
      clear hb4
      go_wp2_with fail
      go_roundw
      case rel => exact ⟨k + 1, by omega, by go_num, by unfold Hid; rw [show (((k + 1 : Nat)) : Int) = (k : Int) + 1 from by omega, ← xadd_succ k HM.out HN.out]; exact HC4.out, hB4⟩
      case measure => simp [intOf]; omega
    · have HP : Hid (xleft m (xadd m n k) f ≤ 0) := by unfold Hid; rw [HX.out]; omega
      have HZ : Hid (xleft m (xadd m n k) f = 0) := by unfold Hid; rw [HX.out]; omega
      have HO : Hid (okx m (xadd m n k) = true) := xadd_ok HM.out HN.out
      go_wp2_with fail
      refine (take_no b m (xadd m n k) f _ HC.out HM.out HP.out).mono ?_
      rintro e w3 ⟨rfl, hb3⟩
      have HC3 := Lib.hid (HC.out.below hb3)
      have hB3 := hB.trans (hb3.mono hB.size)
      clear hb3
      go_wp2_with fail
      refine (left_c b m (xadd m n k) f _ HC3.out HM.out).mono ?_
      rw [HZ.out]
      rintro e w4 ⟨rfl, hb4⟩
      have HC4 := Lib.hid (HC3.out.below hb4)
      have hB4 := hB3.trans (hb4.mono hB3.size)
      clear hb4
      go_wp2_with fail
      refine (next_c b m (xadd m n k) f _ HC4.out).mono ?_
      rintro e w5 ⟨rfl, rfl⟩
      go_wp2_with fail
      refine (freeze_yes b m (xadd m n k) f (xadd m n k) _ HC4.out HM.out (by unfold okf; rw [HO.out]; simp)).mono ?_
      rintro e w5 ⟨rfl, hc5, hg5⟩
      have HC5 := Lib.hid hc5
      have hB5 := hB4.grown hg5 hB4.size (by rintro j hj; cases hj; exact HB1.out)
      clear hc5 hg5
      have HZ2 : Hid (xleft m (xadd m n k) (xadd m n k) = m / 2 - 2) := xleft_self HM.out HO.out
      go_wp2_with fail
      refine (left_c b m (xadd m n k) (xadd m n k) _ HC5.out HM.out).mono ?_
      rw [HZ2.out]
      rintro e w6 ⟨rfl, hb6⟩
      have hB6 := hB5.trans (hb6.mono hB5.size)
      clear hb6
      go_wp2_with fail
      refine (awake_c _).mono ?_
      rintro e w7 ⟨rfl, hb7⟩
      have hB7 := hB6.trans (hb7.mono hB6.size)
      go_wp2_with fail
      go_ret
      exact ⟨rfl, hB7⟩

theorem xidLeft_w (m n f : Int) (w : World) :
    Calls Try.prog 6 #[.int .i64 m, .int .i64 n, .int .i64 f] w fun e w' => e = .returned (.bool true) ∧ Below w.heap.size w w' := by
  by_cases h : okn m n f = true
  · exact xidLeft_good m n f w h
  · exact xidLeft_bad m n f w (by simpa using h)
end Go.Proofs.Ytipnmdhifkckkaa
