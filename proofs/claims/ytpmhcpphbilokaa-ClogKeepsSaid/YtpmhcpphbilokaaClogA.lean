/- Statuses: moduli, ids, places. -/
import Derived.Test.YtpmhcpphbilokaaXidB
import Derived.Test.YtpmhcpphbilokaaBitsL
namespace Go.Proofs.Ytpmhcpphbilokaa
open Go.RowKit
set_option linter.unusedSimpArgs false
set_option maxRecDepth 100000

/-- How many bytes the statuses of a modulus take. -/
def sz (m : Int) : Nat := ((m + 3) / 4).toNat
theorem sz_int {m : Int} (h : okm m = true) : ((sz m : Nat) : Int) = (m + 3) / 4 ∧ 4 ≤ sz m ∧ sz m ≤ 256 := by
  have := okm_bd h
  unfold sz
  omega

theorem size_c (m : Int) (w : World) (h : okm m = true) :
    Calls Try.prog 27 #[.int .i64 m] w fun e w' => e = .returned (.int .i64 (sz m)) ∧ w = w' := by
  have hb := okm_bd h
  have HS := Lib.hid (sz_int h).1
  clear h
  go_enter Try.func27, Try.ntmps27
  go_wp2_with fail
  go_ret
  refine ⟨retI ?_, rfl⟩
  rw [HS.out]
  first | rfl | omega

theorem isMod_c (m : Int) (w : World) :
    Calls Try.prog 24 #[.int .i64 m] w fun e w' => e = .returned (.bool (okm m)) ∧ Below w.heap.size w w' := by
  have HX : Hid ((xadd m 1 0 == 1) = okm m) := by
    unfold Hid xadd
    by_cases h : okm m = true
    · have hb := okm_bd h
      have hx : okx m 1 = true := okx_yes (by omega) (by omega)
      rw [hx, h]
      simp
    · have h' : okm m = false := by simpa using h
      rw [h']
      simp
  go_enter Try.func24, Try.ntmps24
  go_wp2_with fail
  refine (add_c m 1 0 _).mono ?_
  rintro e w1 ⟨rfl, hb⟩
  generalize xadd m 1 0 = z at *
  go_wp2_with fail
  go_ret
  exact ⟨retB HX.out, hb⟩
theorem isID_c (m x : Int) (w : World) :
    Calls Try.prog 25 #[.int .i64 m, .int .i64 x] w fun e w' => e = .returned (.bool (okm m && okx m x)) ∧ Below w.heap.size w w' := by
  have HX : Hid (((xadd m x 0 == x) && (x != 0)) = (okm m && okx m x)) := by
    unfold Hid xadd
    by_cases h : okm m = true
    · have hb := okm_bd h
      by_cases hx : okx m x = true
      · have hbx := okx_bd hx
        rw [hx, h]
        have e : (x - 1 + 0) % m + 1 = x := by rw [Int.add_zero, Int.emod_eq_of_lt (by omega) (by omega)]; omega
        simp only [Bool.and_self, if_true, e, beq_self_eq_true, Bool.true_and]
        simp; omega
      · have h' : okx m x = false := by simpa using hx
        rw [h', h]
        simp
        intro e; exact e.symm
    · have h' : okm m = false := by simpa using h
      rw [h']
      simp
      intro e; exact e.symm
  go_enter Try.func25, Try.ntmps25
  go_wp2_with fail
  refine (add_c m x 0 _).mono ?_
  rintro e w1 ⟨rfl, hb⟩
  generalize xadd m x 0 = z at *
  cases hz : (z == x)
  · rw [hz] at HX
    go_wp2_with fail
    go_ret
    exact ⟨retB HX.out, hb⟩
  · rw [hz] at HX
    go_wp2_with fail
    go_ret
    exact ⟨retB HX.out, hb⟩

theorem place_c (x : Nat) (w : World) (h : 1 ≤ x ∧ x ≤ 1024) :
    Calls Try.prog 36 #[.int .i64 x] w fun e w' => e = .returned (.tuple #[.int .i64 ((x - 1) / 4 : Nat), .int .i64 (2 * ((x - 1) % 4) : Nat)]) ∧ w = w' := by
  obtain ⟨y, rfl⟩ : ∃ y, x = y + 1 := ⟨x - 1, by omega⟩
  go_enter Try.func36, Try.ntmps36
  go_wp2_with fail
  go_ret2
  have e1 : (y + 1 - 1) / 4 = y / 4 := rfl
  have e2 : 2 * ((y + 1 - 1) % 4) = 2 * (y % 4) := rfl
  rw [e1, e2]
  refine ⟨?_, rfl⟩
  have e3 : ((y / 4 : Nat) : Int) = (y : Int) / 4 := rfl
  have e4 : ((2 * (y % 4) : Nat) : Int) = 2 * ((y : Int) % 4) := by simp
  rw [e3, e4]
  rfl
end Go.Proofs.Ytpmhcpphbilokaa
