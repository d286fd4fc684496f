/- The contracts of the reference's Counter. -/
import Derived.Test.YtipnmdhifkckkaaXidD
import Derived.Deep.QuietTactic
namespace Go.Proofs.Ytipnmdhifkckkaa
open Go.RowKit
set_option linter.unusedSimpArgs false

theorem below_drewN (w : World) (n : Nat) : Below w.heap.size w (w.drewN n) := ⟨rfl, rfl, rfl, Nat.le_refl _, fun _ _ => rfl⟩
theorem Ctr.drewN {w : World} {b : Nat} {m n f : Int} (h : Ctr w b m n f) (k : Nat) : Ctr (w.drewN k) b m n f := h.below (below_drewN w k)

set_option maxHeartbeats 400000 in
theorem rleft_c (b : Nat) (m n f : Int) (w : World) (h : Ctr w b m n f) (hm : okm m = true) :
    Calls Try.prog 25 #[.pointer (some ⟨b, 0, none⟩)] w fun e w' => e = .returned (.int .i64 (xleft m n f)) ∧ Below w.heap.size w w' := by
  obtain ⟨b1, b2, _⟩ := okm_bd hm
  obtain ⟨g1, g2, g3⟩ := xgap_bd m f n
  have HE : Hid (xleft m n f = m / 2 - 2 - xgap m f n) := rfl
  obtain ⟨c0, c1, c2, fr, lt⟩ := h
  clear g3 hm
  go_enter Try.func25, Try.ntmps25
  go_wp2_with fail
  go_quiet ((go_at_call 12; exact Calls.quiet_of_same ((rgap_c m f n _).mono (fun e w' ⟨h, k⟩ => ⟨h, k.symm⟩))))
  go_wp2
  go_ret
  exact ⟨retI HE.out.symm, below_drewN _ _⟩

set_option maxHeartbeats 400000 in
theorem rtake_no (b : Nat) (m n f : Int) (w : World) (h : Ctr w b m n f) (hm : okm m = true) (hl : xleft m n f = 0) :
    Calls Try.prog 22 #[.pointer (some ⟨b, 0, none⟩)] w fun e w' => e = .returned (.tuple #[.int .i64 0, .int .i64 70]) ∧ Below w.heap.size w w' := by
  obtain ⟨b1, b2, _⟩ := okm_bd hm
  obtain ⟨g1, g2, g3⟩ := xgap_bd m f n
  have hd : (xgap m f n == m / 2 - 2) = true := by rw [beq_iff_eq]; unfold xleft at hl; omega
  obtain ⟨c0, c1, c2, fr, lt⟩ := h
  clear g3 hm hl
  go_enter Try.func22, Try.ntmps22
  go_wp2_with fail
  go_quiet ((go_at_call 12; exact Calls.quiet_of_same ((rgap_c m f n _).mono (fun e w' ⟨h, k⟩ => ⟨h, k.symm⟩))))
  go_wp2_with fail
  go_ret2
  exact ⟨rfl, below_drewN _ _⟩

set_option maxHeartbeats 400000 in
theorem rtake_yes (b : Nat) (m n f : Int) (w : World) (h : Ctr w b m n f) (hm : okm m = true) (hl : xleft m n f ≠ 0) :
    Calls Try.prog 22 #[.pointer (some ⟨b, 0, none⟩)] w fun e w' => e = .returned (.tuple #[.int .i64 n, .int .i64 0]) ∧ Ctr w' b m (xadd m n 1) f ∧ w.grownBy w' (some b) := by
  obtain ⟨b1, b2, _⟩ := okm_bd hm
  obtain ⟨g1, g2, g3⟩ := xgap_bd m f n
  have hd : (xgap m f n == m / 2 - 2) = false := by rw [beq_eq_false_iff_ne]; unfold xleft at hl; omega
  have HC := Lib.hid h
  obtain ⟨c0, c1, c2, fr, lt⟩ := h
  clear g3 hm hl
  go_enter Try.func22, Try.ntmps22
  go_wp2_with fail
  go_quiet ((go_at_call 12; exact Calls.quiet_of_same ((rgap_c m f n _).mono (fun e w' ⟨h, k⟩ => ⟨h, k.symm⟩))))
  go_wp2_with fail
  refine (radd_c m n 1 _).mono ?_
  rintro e w2 ⟨rfl, rfl⟩
  go_wp2_with fail
  go_ret2
  exact ⟨rfl, (HC.out.drewN nq).setN _, grown_trans (grown_row (grown_of (below_drewN w nq)) _) (grown_set _ _ _ _)⟩

set_option maxHeartbeats 400000 in
theorem rfreeze_yes (b : Nat) (m n f l : Int) (w : World) (h : Ctr w b m n f) (hl : okf m n f l = true) :
    Calls Try.prog 23 #[.pointer (some ⟨b, 0, none⟩), .int .i64 l] w fun e w' => e = .returned (.int .i64 0) ∧ Ctr w' b m n l ∧ w.grownBy w' (some b) := by
  obtain ⟨l1, l2⟩ := Bool.and_eq_true_iff.1 hl
  have hd : decide (xgap m f n < xgap m f l) = false := by simpa using l2
  have HC := Lib.hid h
  obtain ⟨c0, c1, c2, fr, lt⟩ := h
  clear hl l2
  go_enter Try.func23, Try.ntmps23
  go_wp2_with fail
  go_quiet ((first | (go_at_call 29; exact Calls.quiet_of_same ((id_c m l _).mono (fun e w' ⟨h, k⟩ => ⟨by rw [h, l1], k.symm⟩))) | (go_at_call_of 12 (l); exact Calls.quiet_of_same ((rgap_c m f l _).mono (fun e w' ⟨h, k⟩ => ⟨h, k.symm⟩))) | (go_at_call 12; exact Calls.quiet_of_same ((rgap_c m f n _).mono (fun e w' ⟨h, k⟩ => ⟨h, k.symm⟩)))))
  go_wp2_with fail
  go_ret
  exact ⟨rfl, (HC.out.drewN nq).setF _, grown_trans (grown_row (grown_of (below_drewN w nq)) _) (grown_set _ _ _ _)⟩

set_option maxHeartbeats 400000 in
theorem rfreeze_no2 (b : Nat) (m n f l : Int) (w : World) (h : Ctr w b m n f) (l1 : okx m l = true) (l2 : xgap m f n < xgap m f l) :
    Calls Try.prog 23 #[.pointer (some ⟨b, 0, none⟩), .int .i64 l] w fun e w' => e = .returned (.int .i64 1) ∧ w.grownBy w' none := by
  have hd : decide (xgap m f n < xgap m f l) = true := by simpa using l2
  obtain ⟨c0, c1, c2, fr, lt⟩ := h
  clear l2
  go_enter Try.func23, Try.ntmps23
  go_wp2_with fail
  go_quiet ((first | (go_at_call 29; exact Calls.quiet_of_same ((id_c m l _).mono (fun e w' ⟨h, k⟩ => ⟨by rw [h, l1], k.symm⟩))) | (go_at_call_of 12 (l); exact Calls.quiet_of_same ((rgap_c m f l _).mono (fun e w' ⟨h, k⟩ => ⟨h, k.symm⟩))) | (go_at_call 12; exact Calls.quiet_of_same ((rgap_c m f n _).mono (fun e w' ⟨h, k⟩ => ⟨h, k.symm⟩)))))
  go_wp2_with fail
  go_ret
  exact ⟨rfl, grown_of (below_drewN w nq)⟩

set_option maxHeartbeats 400000 in
theorem rfreeze_no1 (b : Nat) (m n f l : Int) (w : World) (h : Ctr w b m n f) (l1 : okx m l = false) :
    Calls Try.prog 23 #[.pointer (some ⟨b, 0, none⟩), .int .i64 l] w fun e w' => e = .returned (.int .i64 1) ∧ w.grownBy w' none := by
  obtain ⟨c0, c1, c2, fr, lt⟩ := h
  go_enter Try.func23, Try.ntmps23
  go_wp2_with fail
  go_quiet ((first | (go_at_call 29; exact Calls.quiet_of_same ((id_c m l _).mono (fun e w' ⟨h, k⟩ => ⟨by rw [h, l1], k.symm⟩)))))
  go_wp2_with fail
  go_ret
  exact ⟨rfl, grown_of (below_drewN w nq)⟩

/-- May a counter be made? -/
def okn (m n f : Int) : Bool := okx m n && okx m f && okm m && decide (xgap m f n ≤ m / 2 - 2)

theorem Ctr.made (w : World) (m n f : Int) (t : Nat) : Ctr (w.alloc (.cells #[.int .i64 m, .int .i64 n, .int .i64 f] t)) w.heap.size m n f := by
  constructor
  · simp [go_sem]
  · simp [go_sem]
  · simp [go_sem]
  · intro o; simp [go_sem]
  · simp
end Go.Proofs.Ytipnmdhifkckkaa
