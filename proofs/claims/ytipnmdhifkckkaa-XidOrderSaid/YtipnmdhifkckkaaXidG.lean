/- The walks of the laws XidRings, XidAdds and XidNil, and of the chapter's examples. -/
import Derived.Test.YtipnmdhifkckkaaXidF
namespace Go.Proofs.Ytipnmdhifkckkaa
open Go.RowKit
set_option linter.unusedSimpArgs false

theorem ex1 : xadd 16 15 3 = 2 := by decide
theorem ex2 : xgap 16 15 2 = 3 := by decide
theorem ex3 : xbef 16 15 2 = true := by decide
theorem ex4 : xbef 16 2 15 = false := by decide
theorem ex5 : xleft 16 (xadd 16 1 1) 1 = 5 := by decide
theorem ex6 : 0 < xleft 16 1 1 := by decide

set_option maxHeartbeats 1000000 in
theorem awake_c (w : World) :
    Calls Try.prog 15 #[] w fun e w' => e = .returned (.bool true) ∧ Below w.heap.size w w' := by
  go_enter Try.func15, Try.ntmps15
  go_wp2_with fail
  refine (new_yes 16 1 1 _ (by decide)).mono ?_
  rintro e w1 ⟨b, hb, rfl, hc1, hb1⟩
  go_wp2_with fail
  refine (take_yes b 16 1 1 _ hc1 (by decide) ex6).mono ?_
  rintro e w2 ⟨rfl, hc2, hg2⟩
  have hB2 := hb1.grown hg2 hb1.size (by rintro k hk; cases hk; exact hb)
  have HB1 := Lib.hid hb
  clear hb hc1 hb1 hg2
  go_wp2_with fail
  refine (add_c 16 15 3 _).mono ?_
  rw [ex1]
  rintro e w3 ⟨rfl, hb3⟩
  go_wp2_with fail
  refine (gap_c 16 15 2 _).mono ?_
  rw [ex2]
  rintro e w4 ⟨rfl, hb4⟩
  go_wp2_with fail
  refine (bef_c 16 15 2 _).mono ?_
  rw [ex3]
  rintro e w5 ⟨rfl, hb5⟩
  go_wp2_with fail
  refine (bef_c 16 2 15 _).mono ?_
  rw [ex4]
  rintro e w6 ⟨rfl, hb6⟩
  have hB6 := hB2.trans ((hb3.trans ((hb4.trans ((hb5.trans (hb6.mono hb5.size)).mono hb4.size)).mono hb3.size)).mono hB2.size)
  go_wp2_with fail
  refine (left_c b 16 _ 1 _ ((((hc2.below hb3).below hb4).below hb5).below hb6) (by decide)).mono ?_
  rw [ex5]
  rintro e w7 ⟨rfl, hb7⟩
  go_wp2_with fail
  go_ret
  exact ⟨rfl, hB6.trans (hb7.mono hB6.size)⟩

set_option maxHeartbeats 1000000 in
theorem xidNil_w (n : Int) (w : World) :
    Calls Try.prog 8 #[.int .i64 n] w fun e w' => e = .returned (.bool true) ∧ Below w.heap.size w w' := by
  go_enter Try.func8, Try.ntmps8
  go_wp2_with fail
  refine (take_nil _).mono ?_
  rintro e w1 ⟨rfl, rfl⟩
  go_wp2_with fail
  refine (freeze_nil _ _).mono ?_
  rintro e w1 ⟨rfl, rfl⟩
  go_wp2_with fail
  refine (next_nil _).mono ?_
  rintro e w1 ⟨rfl, rfl⟩
  go_wp2_with fail
  refine (frozen_nil _).mono ?_
  rintro e w1 ⟨rfl, rfl⟩
  go_wp2_with fail
  refine (left_nil _).mono ?_
  rintro e w1 ⟨rfl, rfl⟩
  go_wp2_with fail
  refine (awake_c _).mono ?_
  rintro e w1 ⟨rfl, hb⟩
  go_wp2_with fail
  go_ret
  exact ⟨rfl, hb⟩

set_option maxHeartbeats 1000000 in
theorem xidRings_w (m a b : Int) (w : World) :
    Calls Try.prog 3 #[.int .i64 m, .int .i64 a, .int .i64 b] w fun e w' => e = .returned (.bool true) ∧ Below w.heap.size w w' := by
  go_enter Try.func3, Try.ntmps3
  go_wp2_with fail
  refine (add_c m a b _).mono ?_
  rintro e w1 ⟨rfl, hb1⟩
  go_wp2_with fail
  refine (radd_c m a b _).mono ?_
  rintro e w2 ⟨rfl, rfl⟩
  go_wp2_with fail
  refine (gap_c m a b _).mono ?_
  rintro e w3 ⟨rfl, hb3⟩
  go_wp2_with fail
  refine (rgap_c m a b _).mono ?_
  rintro e w4 ⟨rfl, rfl⟩
  go_wp2_with fail
  refine (bef_c m a b _).mono ?_
  rintro e w5 ⟨rfl, hb5⟩
  go_wp2_with fail
  refine (rbef_c m a b _).mono ?_
  rintro e w6 ⟨rfl, rfl⟩
  go_wp2_with fail
  refine (awake_c _).mono ?_
  rintro e w7 ⟨rfl, hb7⟩
  have h5 := hb1.trans ((hb3.trans ((hb5.trans (hb7.mono hb5.size)).mono hb3.size)).mono hb1.size)
  go_wp2_with fail
  go_ret
  exact ⟨rfl, h5⟩
end Go.Proofs.Ytipnmdhifkckkaa
