/- The contracts of the reference almonryref07: the same numbers as package xid gives. -/
import Derived.Test.YtpmhcpphbilokaaXidA
namespace Go.Proofs.Ytpmhcpphbilokaa
open Go.RowKit

set_option maxHeartbeats 400000 in
theorem right_c (m : Int) (w : World) :
    Calls Try.prog 28 #[.int .i64 m] w fun e w' => e = .returned (.bool (okm m)) ∧ w = w' := by
  by_cases h1 : 16 ≤ m
  · by_cases h2 : m ≤ 1024
    · rw [okm_of h1 h2]
      go_enter Try.func28, Try.ntmps28
      go_wp2
      go_ret
      exact ⟨rfl, rfl⟩
    · have h : okm m = false := by unfold okm; simp; omega
      rw [h]
      go_enter Try.func28, Try.ntmps28
      go_wp2
      go_ret
      exact ⟨rfl, rfl⟩
  · have h : okm m = false := by unfold okm; simp; omega
    rw [h]
    go_enter Try.func28, Try.ntmps28
    go_wp2
    go_ret
    exact ⟨rfl, rfl⟩

set_option maxHeartbeats 400000 in
theorem id_c (m x : Int) (w : World) :
    Calls Try.prog 56 #[.int .i64 m, .int .i64 x] w fun e w' => e = .returned (.bool (okx m x)) ∧ w = w' := by
  by_cases h1 : 1 ≤ x
  · by_cases h2 : x ≤ m
    · rw [okx_yes h1 h2]
      go_enter Try.func56, Try.ntmps56
      go_wp2
      go_ret
      exact ⟨rfl, rfl⟩
    · rw [okx_no (by omega)]
      go_enter Try.func56, Try.ntmps56
      go_wp2
      go_ret
      exact ⟨rfl, rfl⟩
  · rw [okx_no (by omega)]
    go_enter Try.func56, Try.ntmps56
    go_wp2
    go_ret
    exact ⟨rfl, rfl⟩

theorem pos_eq (x n m : Int) (h : 16 ≤ m) : (x - 1 + n.tmod m) % m + 1 = (x - 1 + n) % m + 1 := by
  rw [Int.tmod_eq_emod]
  split
  · show (x - 1 + (n % m - (0 : Int))) % m + 1 = _
    rw [Int.sub_zero, Int.add_emod_emod]
  · have e : ((m.natAbs : Nat) : Int) = m := by omega
    rw [e, ← Int.add_sub_assoc, Int.sub_emod_right, Int.add_emod_emod]
theorem neg_eq (x n m : Int) (h : 16 ≤ m) : (x - 1 + (n.tmod m + m)) % m + 1 = (x - 1 + n) % m + 1 := by
  rw [Int.tmod_eq_emod]
  split
  · show (x - 1 + (n % m - (0 : Int) + m)) % m + 1 = _
    rw [Int.sub_zero, ← Int.add_assoc, Int.add_emod_right, Int.add_emod_emod]
  · have e : ((m.natAbs : Nat) : Int) = m := by omega
    rw [e, Int.sub_add_cancel, Int.add_emod_emod]

set_option maxHeartbeats 400000 in
theorem radd_c (m x n : Int) (w : World) :
    Calls Try.prog 35 #[.int .i64 m, .int .i64 x, .int .i64 n] w fun e w' => e = .returned (.int .i64 (xadd m x n)) ∧ w = w' := by
  by_cases hm : okm m = true
  · by_cases hx : okx m x = true
    · have hE : Hid (xadd m x n = (x - 1 + n) % m + 1) := by unfold Hid xadd; rw [if_pos (by rw [hm, hx]; rfl)]
      obtain ⟨a1, a2⟩ := okx_bd hx
      obtain ⟨b1, b2, _⟩ := okm_bd hm
      have HM := Lib.hid hm; clear hm
      have HX := Lib.hid hx; clear hx
      obtain ⟨hb1, hb2⟩ := tmod_bd n m b1
      by_cases h0 : n.tmod m < 0
      · go_enter Try.func35, Try.ntmps35
        go_wp2_with fail
        refine (right_c m _).mono ?_
        rintro e w' ⟨rfl, rfl⟩
        rw [HM.out]
        go_wp2_with fail
        refine (id_c m x _).mono ?_
        rintro e w' ⟨rfl, rfl⟩
        rw [HX.out]
        have d1 := Int.emod_nonneg (x - 1 + (n.tmod m + m)) (b := m) (by omega)
        have d2 := Int.emod_lt_of_pos (x - 1 + (n.tmod m + m)) (b := m) (by omega)
        go_wp2_with fail
        go_ret
        exact ⟨retI (by rw [hE.out, neg_eq x n m b1]), rfl⟩
      · have h0' : 0 ≤ n.tmod m := by omega
        go_enter Try.func35, Try.ntmps35
        go_wp2_with fail
        refine (right_c m _).mono ?_
        rintro e w' ⟨rfl, rfl⟩
        rw [HM.out]
        go_wp2_with fail
        refine (id_c m x _).mono ?_
        rintro e w' ⟨rfl, rfl⟩
        rw [HX.out]
        have d1 := Int.emod_nonneg (x - 1 + n.tmod m) (b := m) (by omega)
        have d2 := Int.emod_lt_of_pos (x - 1 + n.tmod m) (b := m) (by omega)
        go_wp2_with fail
        go_ret
        exact ⟨retI (by rw [hE.out, pos_eq x n m b1]), rfl⟩
    · have hE : Hid (xadd m x n = 0) := by unfold Hid xadd; rw [if_neg (by rw [Bool.and_eq_true_iff]; intro h; exact hx h.1)]
      have HM := Lib.hid hm; clear hm
      have HX : Hid (okx m x = false) := by unfold Hid; simpa using hx
      clear hx
      go_enter Try.func35, Try.ntmps35
      go_wp2_with fail
      refine (right_c m _).mono ?_
      rintro e w' ⟨rfl, rfl⟩
      rw [HM.out]
      go_wp2_with fail
      refine (id_c m x _).mono ?_
      rintro e w' ⟨rfl, rfl⟩
      rw [HX.out]
      go_wp2_with fail
      go_ret
      exact ⟨retI hE.out.symm, rfl⟩
  · have hE : Hid (xadd m x n = 0) := by unfold Hid xadd; rw [if_neg (by rw [Bool.and_eq_true_iff]; intro h; exact hm h.2)]
    have HM : Hid (okm m = false) := by unfold Hid; simpa using hm
    clear hm
    go_enter Try.func35, Try.ntmps35
    go_wp2_with fail
    refine (right_c m _).mono ?_
    rintro e w' ⟨rfl, rfl⟩
    rw [HM.out]
    go_wp2_with fail
    go_ret
    exact ⟨retI hE.out.symm, rfl⟩

theorem gap_hit (m a b k : Int) (h : 16 ≤ m) (hb : 1 ≤ b) (hb' : b ≤ m) (hk : 0 ≤ k) (hkg : k ≤ (b - a) % m) :
    ((a - 1 + k) % m + 1 = b) ↔ k = (b - a) % m := by
  have h0 := Int.emod_nonneg (b - a) (b := m) (by omega)
  have h1 := Int.emod_lt_of_pos (b - a) (b := m) (by omega)
  constructor
  · intro e
    have e1 : (a - 1 + k) % m = (b - 1) % m := by rw [Int.emod_eq_of_lt (a := b - 1) (by omega) (by omega)]; omega
    have e2 : (b - a) % m = k % m := by
      have := Int.emod_emod_of_dvd
      have e3 : (b - 1 - (a - 1)) % m = (a - 1 + k - (a - 1)) % m := by rw [Int.sub_emod, ← e1, ← Int.sub_emod]
      rw [show b - 1 - (a - 1) = b - a from by omega, show a - 1 + k - (a - 1) = k from by omega] at e3
      exact e3
    rw [e2, Int.emod_eq_of_lt hk (by omega)]
  · intro e
    rw [e, Int.add_emod_emod, show a - 1 + (b - a) = b - 1 from by omega, Int.emod_eq_of_lt (by omega) (by omega)]; omega

end Go.Proofs.Ytpmhcpphbilokaa
