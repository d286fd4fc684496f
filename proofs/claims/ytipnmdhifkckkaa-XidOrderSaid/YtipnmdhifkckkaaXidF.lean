/- The contracts of New, of package xid and of the reference. -/
import Derived.Test.YtipnmdhifkckkaaXidE
namespace Go.Proofs.Ytipnmdhifkckkaa
open Go.RowKit
set_option linter.unusedSimpArgs false

/-- A new counter is handed back. -/
def NewYes (m n f : Int) (w : World) (e : Ending) (w' : World) : Prop :=
  ∃ b, w.heap.size ≤ b ∧ e = .returned (.tuple #[.pointer (some ⟨b, 0, none⟩), .int .i64 0]) ∧ Ctr w' b m n f ∧ Below w.heap.size w w'

theorem okn_bd {m n f : Int} (h : okn m n f = true) : okx m n = true ∧ okx m f = true ∧ okm m = true ∧ xgap m f n ≤ m / 2 - 2 := by
  unfold okn at h
  rw [Bool.and_eq_true_iff, Bool.and_eq_true_iff, Bool.and_eq_true_iff] at h
  exact ⟨h.1.1.1, h.1.1.2, h.1.2, by simpa using h.2⟩

set_option maxHeartbeats 400000 in
theorem new_yes (m n f : Int) (w : World) (h : okn m n f = true) :
    Calls Try.prog 16 #[.int .i64 m, .int .i64 n, .int .i64 f] w (NewYes m n f w) := by
  obtain ⟨h1, h2, h3, h4⟩ := okn_bd h
  have HI : Hid ((okx m n && okx m f && okm m) = true) := by unfold Hid; rw [h1, h2, h3]; rfl
  obtain ⟨b1, b2, _⟩ := okm_bd h3
  have hd : decide (m / 2 - 2 < xgap m f n) = false := by simpa using h4
  clear h h1 h2 h3 h4
  go_enter Try.func16, Try.ntmps16
  go_wp2_with fail
  refine (ids2_c m n f _ _ _ (by simp) (by simp)).mono ?_
  rintro e w' ⟨rfl, rfl⟩
  rw [HI.out]
  go_wp2_with fail
  refine (gap_c m f n _).mono ?_
  rintro e w' ⟨rfl, hb⟩
  have hs := hb.size
  simp at hs
  go_wp2_with fail
  go_ret2
  exact ⟨w'.heap.size, by omega, rfl, Ctr.made _ _ _ _ _, ((((Below.refl _ _).alloc (Nat.le_refl _) _).trans (hb.mono (by simp))).alloc (by omega) _)⟩

set_option maxHeartbeats 400000 in
theorem new_no (m n f : Int) (w : World) (h : okn m n f = false) :
    Calls Try.prog 16 #[.int .i64 m, .int .i64 n, .int .i64 f] w fun e w' => e = .returned (.tuple #[.pointer none, .int .i64 1]) ∧ Below w.heap.size w w' := by
  by_cases hi : (okx m n && okx m f && okm m) = true
  · have HI := Lib.hid hi
    obtain ⟨b1, b2, _⟩ := okm_bd (Bool.and_eq_true_iff.1 hi).2
    have hd : decide (m / 2 - 2 < xgap m f n) = true := by
      unfold okn at h
      rw [hi] at h
      simpa using h
    clear h hi
    go_enter Try.func16, Try.ntmps16
    go_wp2_with fail
    refine (ids2_c m n f _ _ _ (by simp) (by simp)).mono ?_
    rintro e w' ⟨rfl, rfl⟩
    rw [HI.out]
    go_wp2_with fail
    refine (gap_c m f n _).mono ?_
    rintro e w' ⟨rfl, hb⟩
    go_wp2_with fail
    go_ret2
    exact ⟨rfl, ((((Below.refl _ _).alloc (Nat.le_refl _) _).trans (hb.mono (by simp))))⟩
  · have HI : Hid ((okx m n && okx m f && okm m) = false) := by unfold Hid; simpa using hi
    clear h hi
    go_enter Try.func16, Try.ntmps16
    go_wp2_with fail
    refine (ids2_c m n f _ _ _ (by simp) (by simp)).mono ?_
    rintro e w' ⟨rfl, rfl⟩
    rw [HI.out]
    go_wp2_with fail
    go_ret2
    exact ⟨rfl, ((Below.refl _ _).alloc (Nat.le_refl _) _)⟩

set_option maxHeartbeats 400000 in
theorem rnew_yes (m n f : Int) (w : World) (h : okn m n f = true) :
    Calls Try.prog 21 #[.int .i64 m, .int .i64 n, .int .i64 f] w (NewYes m n f w) := by
  obtain ⟨h1, h2, h3, h4⟩ := okn_bd h
  have H1 := Lib.hid h1
  have H2 := Lib.hid h2
  have H3 := Lib.hid h3
  obtain ⟨b1, b2, _⟩ := okm_bd h3
  have hd : decide (m / 2 - 2 < xgap m f n) = false := by simpa using h4
  clear h h1 h2 h3 h4
  go_enter Try.func21, Try.ntmps21
  go_wp2_with fail
  refine (right_c m _).mono ?_
  rintro e w' ⟨rfl, rfl⟩
  rw [H3.out]
  go_wp2_with fail
  refine (id_c m n _).mono ?_
  rintro e w' ⟨rfl, rfl⟩
  rw [H1.out]
  go_wp2_with fail
  refine (id_c m f _).mono ?_
  rintro e w' ⟨rfl, rfl⟩
  rw [H2.out]
  go_wp2_with fail
  refine (rgap_c m f n _).mono ?_
  rintro e w' ⟨rfl, rfl⟩
  go_wp2_with fail
  go_ret2
  exact ⟨w.heap.size, Nat.le_refl _, rfl, Ctr.made _ _ _ _ _, (Below.refl _ _).alloc (Nat.le_refl _) _⟩

set_option maxHeartbeats 400000 in
theorem rnew_no (m n f : Int) (w : World) (h : okn m n f = false) :
    Calls Try.prog 21 #[.int .i64 m, .int .i64 n, .int .i64 f] w fun e w' => e = .returned (.tuple #[.pointer none, .int .i64 1]) ∧ w = w' := by
  by_cases h3 : okm m = true
  · have H3 := Lib.hid h3
    by_cases h1 : okx m n = true
    · have H1 := Lib.hid h1
      by_cases h2 : okx m f = true
      · have H2 := Lib.hid h2
        obtain ⟨b1, b2, _⟩ := okm_bd h3
        have hd : decide (m / 2 - 2 < xgap m f n) = true := by
          unfold okn at h
          rw [h1, h2, h3] at h
          simpa using h
        clear h h1 h2 h3
        go_enter Try.func21, Try.ntmps21
        go_wp2_with fail
        refine (right_c m _).mono ?_
        rintro e w' ⟨rfl, rfl⟩
        rw [H3.out]
        go_wp2_with fail
        refine (id_c m n _).mono ?_
        rintro e w' ⟨rfl, rfl⟩
        rw [H1.out]
        go_wp2_with fail
        refine (id_c m f _).mono ?_
        rintro e w' ⟨rfl, rfl⟩
        rw [H2.out]
        go_wp2_with fail
        refine (rgap_c m f n _).mono ?_
        rintro e w' ⟨rfl, rfl⟩
        go_wp2_with fail
        go_ret2
        exact ⟨rfl, rfl⟩
      · have H2 : Hid (okx m f = false) := by unfold Hid; simpa using h2
        clear h h1 h2 h3
        go_enter Try.func21, Try.ntmps21
        go_wp2_with fail
        refine (right_c m _).mono ?_
        rintro e w' ⟨rfl, rfl⟩
        rw [H3.out]
        go_wp2_with fail
        refine (id_c m n _).mono ?_
        rintro e w' ⟨rfl, rfl⟩
        rw [H1.out]
        go_wp2_with fail
        refine (id_c m f _).mono ?_
        rintro e w' ⟨rfl, rfl⟩
        rw [H2.out]
        go_wp2_with fail
        go_ret2
        exact ⟨rfl, rfl⟩
    · have H1 : Hid (okx m n = false) := by unfold Hid; simpa using h1
      clear h h1 h3
      go_enter Try.func21, Try.ntmps21
      go_wp2_with fail
      refine (right_c m _).mono ?_
      rintro e w' ⟨rfl, rfl⟩
      rw [H3.out]
      go_wp2_with fail
      refine (id_c m n _).mono ?_
      rintro e w' ⟨rfl, rfl⟩
      rw [H1.out]
      go_wp2_with fail
      go_ret2
      exact ⟨rfl, rfl⟩
  · have H3 : Hid (okm m = false) := by unfold Hid; simpa using h3
    clear h h3
    go_enter Try.func21, Try.ntmps21
    go_wp2_with fail
    refine (right_c m _).mono ?_
    rintro e w' ⟨rfl, rfl⟩
    rw [H3.out]
    go_wp2_with fail
    go_ret2
    exact ⟨rfl, rfl⟩

end Go.Proofs.Ytipnmdhifkckkaa
