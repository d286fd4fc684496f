/- The walk of the law XidAdds. -/
import Derived.Test.YtipnmdhifkckkaaXidG
namespace Go.Proofs.Ytipnmdhifkckkaa
open Go.RowKit
set_option linter.unusedSimpArgs false

theorem xadd_val {m x n : Int} (hm : okm m = true) (hx : okx m x = true) : xadd m x n = (x - 1 + n) % m + 1 := by unfold xadd; rw [hx, hm]; rfl
theorem xgap_val {m a b : Int} (hm : okm m = true) (ha : okx m a = true) (hb : okx m b = true) : xgap m a b = (b - a) % m := by unfold xgap; rw [hm, ha, hb]; rfl
theorem xadd_ok {m x n : Int} (hm : okm m = true) (hx : okx m x = true) : okx m (xadd m x n) = true := by
  obtain ⟨b1, b2, _⟩ := okm_bd hm
  rw [xadd_val hm hx]
  have c1 := Int.emod_nonneg (x - 1 + n) (b := m) (by omega)
  have c2 := Int.emod_lt_of_pos (x - 1 + n) (b := m) (by omega)
  exact okx_yes (by omega) (by omega)
theorem xgap_add {m x n : Int} (hm : okm m = true) (hx : okx m x = true) : xgap m x (xadd m x n) = n % m := by
  rw [xgap_val hm hx (xadd_ok hm hx), xadd_val hm hx]
  have e : (x - 1 + n) % m + 1 - x = (x - 1 + n) % m - (x - 1) := by omega
  rw [e, Int.emod_sub_emod]
  congr 1; omega
theorem xadd_back {m x n : Int} (hm : okm m = true) (hx : okx m x = true) : xadd m (xadd m x n) (-(n % m)) = x := by
  obtain ⟨b1, b2, _⟩ := okm_bd hm
  obtain ⟨a1, a2⟩ := okx_bd hx
  rw [xadd_val hm (xadd_ok hm hx), xadd_val hm hx]
  have e : (x - 1 + n) % m + 1 - 1 + -(n % m) = (x - 1 + n) % m - n % m := by omega
  rw [e, Int.emod_sub_emod, Int.sub_emod_emod]
  rw [show x - 1 + n - n = x - 1 from by omega, Int.emod_eq_of_lt (by omega) (by omega)]; omega
theorem xgap_turn {m a b : Int} (hm : okm m = true) (ha : okx m a = true) (hb : okx m b = true) : xgap m a b + xgap m b a = 0 ∨ xgap m a b + xgap m b a = m := by
  obtain ⟨b1, b2, _⟩ := okm_bd hm
  obtain ⟨a1, a2⟩ := okx_bd ha
  obtain ⟨a3, a4⟩ := okx_bd hb
  rw [xgap_val hm ha hb, xgap_val hm hb ha]
  by_cases h : a = b
  · subst h; left; simp
  · right
    by_cases h' : a < b
    · rw [Int.emod_eq_of_lt (a := b - a) (by omega) (by omega)]
      have : (a - b) % m = (a - b + m) % m := by rw [Int.add_emod_right]
      rw [this, Int.emod_eq_of_lt (by omega) (by omega)]; omega
    · rw [Int.emod_eq_of_lt (a := a - b) (by omega) (by omega)]
      have : (b - a) % m = (b - a + m) % m := by rw [Int.add_emod_right]
      rw [this, Int.emod_eq_of_lt (by omega) (by omega)]; omega
theorem xbef_asym {m a b : Int} (hm : okm m = true) (ha : okx m a = true) (hb : okx m b = true) (h : xbef m a b = true) : xbef m b a = false := by
  obtain ⟨b1, b2, b3⟩ := okm_bd hm
  unfold xbef at *
  have := xgap_turn hm ha hb
  simp at h ⊢
  omega
theorem bad_all {m : Int} (x n : Int) (h : (okx m x && okm m) = false) : xadd m x n = 0 ∧ xgap m x n = 0 ∧ xbef m x n = false := by
  have h1 : xadd m x n = 0 := by unfold xadd; rw [h]; rfl
  have h2 : xgap m x n = 0 := by
    unfold xgap; rw [if_neg]
    rw [Bool.and_eq_true_iff, Bool.and_eq_true_iff]
    rintro ⟨⟨k1, _⟩, k2⟩; rw [k1, k2] at h; simp at h
  exact ⟨h1, h2, by unfold xbef; rw [h2]; simp⟩

set_option maxHeartbeats 1000000 in
theorem xidAdds_bad (m x n : Int) (w : World) (h : (okx m x && okm m) = false) :
    Calls Try.prog 4 #[.int .i64 m, .int .i64 x, .int .i64 n] w fun e w' => e = .returned (.bool true) ∧ Below w.heap.size w w' := by
  obtain ⟨h1, h2, h3⟩ := bad_all x n h
  have H1 := Lib.hid h1
  have H2 := Lib.hid h2
  have H3 := Lib.hid h3
  clear h1 h2 h3
  have hc : m < 16 ∨ (16 ≤ m ∧ 1024 < m) ∨ (16 ≤ m ∧ m ≤ 1024 ∧ (m % 2 != 0) = true) ∨ (16 ≤ m ∧ m ≤ 1024 ∧ (m % 2 != 0) = false ∧ x < 1) ∨ (16 ≤ m ∧ m ≤ 1024 ∧ (m % 2 != 0) = false ∧ 1 ≤ x ∧ m < x) := by
    unfold okx okm at h
    simp only [bne_iff_ne, bne_eq_false_iff_eq]
    simp at h
    omega
  clear h
  rcases hc with hc | ⟨hc1, hc2⟩ | ⟨hc1, hc2, hc3⟩ | ⟨hc1, hc2, hc3, hc4⟩ | ⟨hc1, hc2, hc3, hc4, hc5⟩
  all_goals
    go_enter Try.func4, Try.ntmps4
    go_wp2_with fail
    refine (add_c m x n _).mono ?_
    rw [H1.out]
    rintro e w1 ⟨rfl, hb1⟩
    go_wp2_with fail
    refine (gap_c m x n _).mono ?_
    rw [H2.out]
    rintro e w2 ⟨rfl, hb2⟩
    go_wp2_with fail
    refine (bef_c m x n _).mono ?_
    rw [H3.out]
    rintro e w3 ⟨rfl, hb3⟩
    go_wp2_with fail
    refine (awake_c _).mono ?_
    rintro e w7 ⟨rfl, hb7⟩
    have h5 := hb1.trans ((hb2.trans ((hb3.trans (hb7.mono hb3.size)).mono hb2.size)).mono hb1.size)
    go_wp2_with fail
    go_ret
    exact ⟨rfl, h5⟩

set_option maxHeartbeats 1000000 in
theorem xidAdds_good (m x n : Int) (w : World) (hx : okx m x = true) (hm : okm m = true) :
    Calls Try.prog 4 #[.int .i64 m, .int .i64 x, .int .i64 n] w fun e w' => e = .returned (.bool true) ∧ Below w.heap.size w w' := by
  obtain ⟨b1, b2, b3⟩ := okm_bd hm
  obtain ⟨a1, a2⟩ := okx_bd hx
  have hm2 : (m % 2 != 0) = false := by rw [b3]; rfl
  clear b3
  have HY := Lib.hid (xadd_ok (n := n) hm hx)
  obtain ⟨y1, y2⟩ := okx_bd HY.out
  have HG := Lib.hid (xgap_add (n := n) hm hx)
  have HK := Lib.hid (xadd_back (n := n) hm hx)
  have HM := Lib.hid hm
  have HX := Lib.hid hx
  clear hm hx
  generalize hy : xadd m x n = y at *
  have HE := Lib.hid hy
  clear hy
  have hB : xbef m x y = true ∨ xbef m x y = false := by cases xbef m x y <;> simp
  obtain ⟨t1, t2⟩ := tmod_bd n m b1
  have c1 := Int.emod_nonneg n (b := m) (by omega)
  have c2 := Int.emod_lt_of_pos n (b := m) (by omega)
  generalize hk : n % m = k at *
  have hs : (n.tmod m < 0 ∧ n.tmod m + m = k) ∨ (¬ n.tmod m < 0 ∧ n.tmod m = k) := by
    rw [← hk, Int.tmod_eq_emod]
    split
    · right
      show ¬ (n % m - (0 : Int)) < 0 ∧ n % m - (0 : Int) = n % m
      omega
    · left
      omega
  clear hk
  rcases hs with ⟨s1, s2⟩ | ⟨s1, s2⟩
  all_goals
    subst s2
    have HBB : Hid (xbef m x y = true → xbef m y x = false) := fun h => xbef_asym HM.out HX.out HY.out h
    rcases hB with hB | hB
    · go_enter Try.func4, Try.ntmps4
      go_wp2_with fail
      refine (add_c m x n _).mono ?_
      rw [HE.out]
      rintro e w1 ⟨rfl, hb1⟩
      go_wp2_with fail
      refine (gap_c m x y _).mono ?_
      rw [HG.out]
      rintro e w2 ⟨rfl, hb2⟩
      go_wp2_with fail
      refine (bef_c m x y _).mono ?_
      rw [hB]
      rintro e w3 ⟨rfl, hb3⟩
      go_wp2_with fail
      refine (bef_c m y x _).mono ?_
      rw [HBB.out hB]
      rintro e w4 ⟨rfl, hb4⟩
      go_wp2_with fail
      refine (add_c m y _ _).mono ?_
      rw [HK.out]
      rintro e w5 ⟨rfl, hb5⟩
      go_wp2_with fail
      refine (awake_c _).mono ?_
      rintro e w7 ⟨rfl, hb7⟩
      have h5 := hb1.trans ((hb2.trans ((hb3.trans ((hb4.trans ((hb5.trans (hb7.mono hb5.size)).mono hb4.size)).mono hb3.size)).mono hb2.size)).mono hb1.size)
      go_wp2_with fail
      go_ret
      exact ⟨rfl, h5⟩
    · go_enter Try.func4, Try.ntmps4
      go_wp2_with fail
      refine (add_c m x n _).mono ?_
      rw [HE.out]
      rintro e w1 ⟨rfl, hb1⟩
      go_wp2_with fail
      refine (gap_c m x y _).mono ?_
      rw [HG.out]
      rintro e w2 ⟨rfl, hb2⟩
      go_wp2_with fail
      refine (bef_c m x y _).mono ?_
      rw [hB]
      rintro e w3 ⟨rfl, hb3⟩
      go_wp2_with fail
      refine (add_c m y _ _).mono ?_
      rw [HK.out]
      rintro e w5 ⟨rfl, hb5⟩
      go_wp2_with fail
      refine (awake_c _).mono ?_
      rintro e w7 ⟨rfl, hb7⟩
      have h5 := hb1.trans ((hb2.trans ((hb3.trans ((hb5.trans (hb7.mono hb5.size)).mono hb3.size)).mono hb2.size)).mono hb1.size)
      go_wp2_with fail
      go_ret
      exact ⟨rfl, h5⟩

theorem xidAdds_w (m x n : Int) (w : World) :
    Calls Try.prog 4 #[.int .i64 m, .int .i64 x, .int .i64 n] w fun e w' => e = .returned (.bool true) ∧ Below w.heap.size w w' := by
  by_cases hx : okx m x = true
  · by_cases hm : okm m = true
    · exact xidAdds_good m x n w hx hm
    · exact xidAdds_bad m x n w (by simp at hm; rw [hm]; simp)
  · exact xidAdds_bad m x n w (by simp at hx; rw [hx]; simp)
end Go.Proofs.Ytipnmdhifkckkaa
