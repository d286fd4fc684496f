/- More contracts of a Counter of package xid. -/
import Derived.Test.YtipnmdhifkckkaaXidC
import Derived.Test.YtipnmdhifkckkaaLex
namespace Go.Proofs.Ytipnmdhifkckkaa
set_option linter.unusedSimpArgs false
open Go.RowKit

set_option maxHeartbeats 1000000 in
theorem freeze_no2 (b : Nat) (m n f l : Int) (w : World) (h : Ctr w b m n f) (hm : okm m = true) (hx : okx m l = true) (hl : xgap m f n < xgap m f l) :
    Calls Try.prog 19 #[.pointer (some ⟨b, 0, none⟩), .int .i64 l] w fun e w' => e = .returned (.int .i64 1) ∧ w.grownBy w' none := by
  have hd : decide (xgap m f n < xgap m f l) = true := by simpa using hl
  have HD := Lib.hid hd; clear hd
  have HL : Hid ((okx m l && okm m) = true) := by unfold Hid; rw [hx, hm]; rfl
  have HC := Lib.hid h
  obtain ⟨c0, c1, c2, fr, lt⟩ := h
  clear hl hx hm
  go_enter Try.func19, Try.ntmps19
  go_wp2_with fail
  go_region_held3 (fun w' => w'.cell? ⟨b, 0, none⟩ = some (.int .i64 m) ∧ w'.cell? ⟨b, 1, none⟩ = some (.int .i64 n) ∧ w'.cell? ⟨b, 2, none⟩ = some (.int .i64 f))
    ((first | (go_keep; done) | (refine ⟨bel_at hb ?_, bel_at hb ?_, bel_at hb ?_⟩ <;> (first | (simp [go_sem, *]; done)))))
    (first | (go_at_call 26; refine (ids1_c m l _ _ _ (by simp)).mono ?_; rw [HL.out]; rintro e w' ⟨rfl, rfl⟩) | (go_at_call_of 11 (l); refine (gap_c m f l _).mono ?_; rintro e w' ⟨rfl, hb⟩; have hb1 := hb) | (go_at_call 11; refine (gap_c m f n _).mono ?_; rintro e w' ⟨rfl, hb⟩; have hb2 := hb))
  rw [HD.out]
  have hG := grown_trans (grown_trans (grown_trans (grown_trans (grown_refl w none) (grown_alloc w (.cells #[.int .i64 l] 3) none)) (grown_drew (grown_refl _ none))) (grown_of hb1)) (grown_of hb2)
  go_wp2_with fail
  go_ret
  exact ⟨rfl, hG⟩

set_option maxHeartbeats 1000000 in
theorem freeze_no1 (b : Nat) (m n f l : Int) (w : World) (h : Ctr w b m n f) (hx : okx m l = false) :
    Calls Try.prog 19 #[.pointer (some ⟨b, 0, none⟩), .int .i64 l] w fun e w' => e = .returned (.int .i64 1) ∧ w.grownBy w' none := by
  have HL : Hid ((okx m l && okm m) = false) := by unfold Hid; rw [hx]; rfl
  obtain ⟨c0, c1, c2, fr, lt⟩ := h
  clear hx
  go_enter Try.func19, Try.ntmps19
  go_wp2_with fail
  refine wp_region_lexH (fun w' => w'.cell? ⟨b, 0, none⟩ = some (.int .i64 m)) [false, false, false, false, false, true, true, false, false, false, false, false, false, false, false, false, false, false, false, false, false, false, false, false, false, false, false, false, false, false, false, false, false, false, false] (by kernel_rfl) (by kernel_rfl) rfl (by kernel_rfl) (fun _ _ _ _ h => h) (by go_keep) (fun hHeld => ?_)
  iterate 5 (refine lex_take (v := ?_) (by kernel_rfl) (by intro w' hSw; (try dsimp only at hSw); go_simp; try (with_reducible rfl)) ?_; try simp only [Act.put, List.setIfInBounds_toArray, List.set_cons_zero, List.set_cons_succ])
  refine lex_act (by kernel_rfl) (fun K hK => ?_)
  go_simp
  refine hK.out _ _ (by first | (go_keep; done) | (simp [go_sem, *]; done)) (fun hHeld => ?_)
  clear hK K
  try simp only [Act.put, List.setIfInBounds_toArray, List.set_cons_zero, List.set_cons_succ]
  refine lex_act (by kernel_rfl) (fun K hK => ?_)
  go_simp
  refine (ids1_c m l _ _ _ (by simp)).mono ?_; rw [HL.out]; rintro e w' ⟨rfl, rfl⟩
  refine hK.out _ _ (by first | (go_keep; done) | (simp [go_sem, *]; done)) (fun hHeld => ?_)
  clear hK K
  try simp only [Act.put, List.setIfInBounds_toArray, List.set_cons_zero, List.set_cons_succ]
  iterate 2 (refine lex_take (v := ?_) (by kernel_rfl) (by intro w' hSw; (try dsimp only at hSw); go_simp; try (with_reducible rfl)) ?_; try simp only [Act.put, List.setIfInBounds_toArray, List.set_cons_zero, List.set_cons_succ])
  iterate 24 (refine lex_skip (by kernel_rfl) ?_)
  try simp only [Act.put, List.setIfInBounds_toArray, List.set_cons_zero, List.set_cons_succ]
  iterate 2 (refine lex_take (v := ?_) (by kernel_rfl) (by intro w' hSw; (try dsimp only at hSw); go_simp; try (with_reducible rfl)) ?_; try simp only [Act.put, List.setIfInBounds_toArray, List.set_cons_zero, List.set_cons_succ])
  refine lex_done ?_
  go_wp2_with fail
  go_ret
  exact ⟨rfl, grown_drew (grown_alloc w _ none)⟩
end Go.Proofs.Ytipnmdhifkckkaa
