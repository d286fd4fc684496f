/- Checks: the walk of CheckParts. -/
import Derived.Test.YtbhiijjnobcmoaaCkF
namespace Go.Proofs.Ytbhiijjnobcmoaa
open Go.RowKit
set_option linter.unusedSimpArgs false
set_option maxRecDepth 100000

/-- A configuration in memory. -/
def CF (w : World) (bt : Nat) (a b c d : Int) : Prop := w.heap[bt]? = some (.cells #[.int .i64 a, .int .i64 b, .int .i64 c, .int .i64 d] 23 (0, 0))
theorem CF.cell {w : World} {bt : Nat} {a b c d : Int} (H : CF w bt a b c d) :
    w.cell? ⟨bt, 0, none⟩ = some (.int .i64 a) ∧ w.cell? ⟨bt, 1, none⟩ = some (.int .i64 b) ∧ w.cell? ⟨bt, 2, none⟩ = some (.int .i64 c) ∧ w.cell? ⟨bt, 3, none⟩ = some (.int .i64 d) := by
  unfold CF at H
  refine ⟨?_, ?_, ?_, ?_⟩ <;> (simp only [World.cell?, H]; rfl)
theorem CF.below {w w' : World} {bt : Nat} {a b c d : Int} (H : CF w bt a b c d) (hb : Below w.heap.size w w') : CF w' bt a b c d := (hb.block bt (row_lt H)).trans H
/-- A layout in memory. -/
def LY (w : World) (bt : Nat) (a b c : Int) : Prop := w.heap[bt]? = some (.cells #[.int .i64 a, .int .i64 b, .int .i64 c] 31 (0, 0))
theorem LY.cell {w : World} {bt : Nat} {a b c : Int} (H : LY w bt a b c) :
    w.cell? ⟨bt, 0, none⟩ = some (.int .i64 a) ∧ w.cell? ⟨bt, 1, none⟩ = some (.int .i64 b) ∧ w.cell? ⟨bt, 2, none⟩ = some (.int .i64 c) := by
  unfold LY at H
  refine ⟨?_, ?_, ?_⟩ <;> (simp only [World.cell?, H]; rfl)
theorem LY.below {w w' : World} {bt : Nat} {a b c : Int} (H : LY w bt a b c) (hb : Below w.heap.size w w') : LY w' bt a b c := (hb.block bt (row_lt H)).trans H

set_option maxHeartbeats 4000000 in
theorem checkParts_w (a b c d : Int) (w : World) :
    Calls Try.prog 5 #[.agg #[.int .i64 a, .int .i64 b, .int .i64 c, .int .i64 d]] w fun e w' => e = .returned (.bool true) ∧ Below w.heap.size w w' := by
  obtain ⟨wb, hwb⟩ : ∃ wb, wb = w.alloc (.cells #[.int .i64 a, .int .i64 b, .int .i64 c, .int .i64 d] 23) := ⟨_, rfl⟩
  obtain ⟨bt, hbt⟩ : ∃ bt, bt = w.heap.size := ⟨_, rfl⟩
  have B0 : Hid (Below w.heap.size w wb) := by unfold Hid; rw [hwb]; exact (Below.refl _ w).alloc (Nat.le_refl _) _
  have C0 : Hid (CF wb bt a b c d) := by unfold Hid CF; rw [hwb, hbt]; exact heap_alloc_new w _
  go_enter Try.func5, Try.ntmps5
  have cc := C0.out.cell
  rw [hwb, hbt] at cc
  obtain ⟨c0, c1, c2, c3⟩ := cc
  go_wp2_with fail
  clear c0 c1 c2 c3
  rw [← hwb, ← hbt]
  clear hwb hbt
  refine (layout_c a b c d wb).mono ?_
  rintro e w1 ⟨rfl, hb1⟩
  have B1 := Lib.hid (B0.out.trans (hb1.mono B0.out.size))
  have C1 := Lib.hid (C0.out.below hb1)
  clear hb1 B0 C0
  cases hok : okCfg a b c d
  · have e1 : layV a b c d = .tuple #[.agg #[.int .i64 0, .int .i64 0, .int .i64 0], .int .i64 1] := by unfold layV; rw [hok]; rfl
    rw [e1]
    clear e1
    have HL : Hid (LY (w1.alloc (.cells #[.int .i64 0, .int .i64 0, .int .i64 0] 31)) w1.heap.size 0 0 0) := heap_alloc_new w1 _
    have ha := (Below.refl w1.heap.size w1).alloc (Nat.le_refl _) (.cells #[.int .i64 0, .int .i64 0, .int .i64 0] 31)
    have B2 := Lib.hid (B1.out.trans (ha.mono B1.out.size))
    have C2 := Lib.hid (C1.out.below ha)
    obtain ⟨c0, c1, c2, c3⟩ := C2.out.cell
    clear ha B1 C1
    go_wp2_with fail
    clear c0 c1 c2 c3
    generalize w1.alloc (.cells #[.int .i64 0, .int .i64 0, .int .i64 0] 31) = w2 at *
    generalize w1.heap.size = bl at *
    refine (sound_c a b c d w2).mono ?_
    rintro e w3 ⟨rfl, hb3⟩
    have B3 := Lib.hid (B2.out.trans (hb3.mono B2.out.size))
    have L3 := Lib.hid (HL.out.below hb3)
    clear hb3 B2 C2 HL
    rw [hok]
    obtain ⟨d0, d1, d2⟩ := L3.out.cell
    go_wp2_with fail
    refine (awake_c _).mono ?_
    rintro e w4 ⟨rfl, hb4⟩
    have B4 := Lib.hid (B3.out.trans (hb4.mono B3.out.size))
    clear hb4 d0 d1 d2
    go_wp2_with fail
    go_ret
    exact ⟨rfl, B4.out⟩
  · have e1 : layV a b c d = .tuple #[.agg #[.int .i64 2, .int .i64 (2 + c), .int .i64 (2 + c + 8 * d)], .int .i64 0] := by unfold layV; rw [if_pos hok]
    rw [e1]
    clear e1
    have HL : Hid (LY (w1.alloc (.cells #[.int .i64 2, .int .i64 (2 + c), .int .i64 (2 + c + 8 * d)] 31)) w1.heap.size 2 (2 + c) (2 + c + 8 * d)) := heap_alloc_new w1 _
    have ha := (Below.refl w1.heap.size w1).alloc (Nat.le_refl _) (.cells #[.int .i64 2, .int .i64 (2 + c), .int .i64 (2 + c + 8 * d)] 31)
    have B2 := Lib.hid (B1.out.trans (ha.mono B1.out.size))
    have C2 := Lib.hid (C1.out.below ha)
    obtain ⟨c0, c1, c2, c3⟩ := C2.out.cell
    obtain ⟨_, _, hc1, hd1⟩ := okCfg_bd hok
    have HBD : Hid (2 + c + 8 * d ≤ 65536) := by unfold Hid; omega
    clear ha B1 C1
    go_wp2_with fail
    clear c0 c1 c2 c3
    generalize w1.alloc (.cells #[.int .i64 2, .int .i64 (2 + c), .int .i64 (2 + c + 8 * d)] 31) = w2 at *
    generalize w1.heap.size = bl at *
    refine (sound_c a b c d w2).mono ?_
    rintro e w3 ⟨rfl, hb3⟩
    have B3 := Lib.hid (B2.out.trans (hb3.mono B2.out.size))
    have L3 := Lib.hid (HL.out.below hb3)
    have C3 := Lib.hid (C2.out.below hb3)
    clear hb3 B2 C2 HL
    rw [hok]
    obtain ⟨d0, d1, d2⟩ := L3.out.cell
    obtain ⟨c0, c1, c2, c3⟩ := C3.out.cell
    have g1 : (2 + c - 2 : Int) = c := by omega
    have g2 : (2 + c + 8 * d - (2 + c) : Int) = 8 * d := by omega
    have g3 := HBD.out
    go_wp2_with fail
    refine (awake_c _).mono ?_
    rintro e w4 ⟨rfl, hb4⟩
    have B4 := Lib.hid (B3.out.trans (hb4.mono B3.out.size))
    clear hb4 d0 d1 d2 c0 c1 c2 c3 g1 g2 g3
    go_wp2_with fail
    go_ret
    exact ⟨rfl, B4.out⟩
end Go.Proofs.Ytbhiijjnobcmoaa
