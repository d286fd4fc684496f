/- Checks: the newer one of two sectors; the walk of CheckReads. Printed by gen_ckn.py. -/
import Derived.Test.YtbhiijjnobcmoaaCkM
namespace Go.Proofs.Ytbhiijjnobcmoaa
open Go.RowKit
set_option linter.unusedSimpArgs false
set_option maxRecDepth 100000

def mkV (x : Int × List Int) : Value := .tuple #[.agg (x.2.map (Value.int .i64)).toArray, .int .i64 x.1]
/-- The newer one of both. -/
def nw (x y : Int × List Int) : Int × List Int := if y.1 = 0 ∧ (x.1 ≠ 0 ∨ x.2.getD 4 0 < y.2.getD 4 0) then y else x
theorem decR_is (l : List UInt8) (p : Int) : ∃ a b c d n s k g : Int, decR l p = (g, [a, b, c, d, n, s, k]) ∧ (g = 0 ∨ (g = 223 ∧ a = 0 ∧ b = 0 ∧ c = 0 ∧ d = 0 ∧ n = 0 ∧ s = 0 ∧ k = 0)) := by
  unfold decR
  split
  · exact ⟨_, _, _, _, _, _, _, _, rfl, .inl rfl⟩
  · exact ⟨_, _, _, _, _, _, _, _, rfl, .inr ⟨rfl, rfl, rfl, rfl, rfl, rfl, rfl, rfl⟩⟩

set_option maxHeartbeats 4000000 in
theorem newest_c (ta tb : ByteArray) (w : World) :
    Calls Try.prog 17 #[.string ta, .string tb] w fun e w' => e = .returned (mkV (nw (decR ta.data.toList 0) (decR tb.data.toList 1))) ∧ Below w.heap.size w w' := by
  obtain ⟨a, b, c, d, n, s, k, g, hx, hgx⟩ := decR_is ta.data.toList 0
  obtain ⟨a', b', c', d', n', s', k', g', hy, hgy⟩ := decR_is tb.data.toList 1
  have DX := Lib.hid (fun w' => decode_c ta 0 w')
  have DY := Lib.hid (fun w' => decode_c tb 1 w')
  have ex : decV ta.data.toList 0 = .tuple #[.agg #[.int .i64 a, .int .i64 b, .int .i64 c, .int .i64 d, .int .i64 n, .int .i64 s, .int .i64 k], .int .i64 g] := by unfold decV; rw [hx]; rfl
  have ey : decV tb.data.toList 1 = .tuple #[.agg #[.int .i64 a', .int .i64 b', .int .i64 c', .int .i64 d', .int .i64 n', .int .i64 s', .int .i64 k'], .int .i64 g'] := by unfold decV; rw [hy]; rfl
  rw [ex] at DX
  rw [ey] at DY
  rw [hx, hy]
  clear ex ey hx hy
  obtain ⟨w0, hw0⟩ : ∃ w0, w0 = w.alloc (.cells #[.int .i64 0, .int .i64 0, .int .i64 0, .int .i64 0, .int .i64 0, .int .i64 0, .int .i64 0] 25) := ⟨_, rfl⟩
  obtain ⟨br, hbr⟩ : ∃ br, br = w.heap.size := ⟨_, rfl⟩
  have B0 : Hid (Below w.heap.size w w0) := by unfold Hid; rw [hw0]; exact (Below.refl _ w).alloc (Nat.le_refl _) _
  have R0 : Hid (CT w0 br 0 0 0 0 0 0 0) := by unfold Hid CT; rw [hw0, hbr]; exact heap_alloc_new w _
  have HN : Hid (w.heap.size ≤ br) := by unfold Hid; omega
  go_enter Try.func17, Try.ntmps17
  go_wp2_with fail
  rw [← hw0, ← hbr]
  clear hw0 hbr
  refine (DX.out w0).mono ?_
  rintro e w1 ⟨rfl, hb1⟩
  have ha := (Below.refl w1.heap.size w1).alloc (Nat.le_refl _) (.cells #[.int .i64 a, .int .i64 b, .int .i64 c, .int .i64 d, .int .i64 n, .int .i64 s, .int .i64 k] 25)
  have hb2 := hb1.trans (ha.mono hb1.size)
  have X2 : Hid (CT (w1.alloc (.cells #[.int .i64 a, .int .i64 b, .int .i64 c, .int .i64 d, .int .i64 n, .int .i64 s, .int .i64 k] 25)) w1.heap.size a b c d n s k) := heap_alloc_new w1 _
  have B2 := Lib.hid (B0.out.trans (hb2.mono B0.out.size))
  have R2 := Lib.hid (R0.out.below hb2)
  clear hb1 ha hb2 B0 R0
  go_wp2_with fail
  generalize w1.alloc (.cells #[.int .i64 a, .int .i64 b, .int .i64 c, .int .i64 d, .int .i64 n, .int .i64 s, .int .i64 k] 25) = w2 at *
  generalize w1.heap.size = bx at *
  refine (DY.out w2).mono ?_
  rintro e w3 ⟨rfl, hb3⟩
  have ha := (Below.refl w3.heap.size w3).alloc (Nat.le_refl _) (.cells #[.int .i64 a', .int .i64 b', .int .i64 c', .int .i64 d', .int .i64 n', .int .i64 s', .int .i64 k'] 25)
  have hb4 := hb3.trans (ha.mono hb3.size)
  have Y5 : Hid (CT (w3.alloc (.cells #[.int .i64 a', .int .i64 b', .int .i64 c', .int .i64 d', .int .i64 n', .int .i64 s', .int .i64 k'] 25)) w3.heap.size a' b' c' d' n' s' k') := heap_alloc_new w3 _
  have X5 := Lib.hid (X2.out.below hb4)
  have B5 := Lib.hid (B2.out.trans (hb4.mono B2.out.size))
  have R5 := Lib.hid (R2.out.below hb4)
  clear hb3 ha hb4 B2 R2 X2 DX DY
  have hrs := R5.out
  obtain ⟨c0, c1, c2, c3, c4, c5, c6⟩ := X5.out.cell
  obtain ⟨d0, d1, d2, d3, d4, d5, d6⟩ := Y5.out.cell
  obtain ⟨w5, hw5⟩ : ∃ w5, w5 = w3.alloc (.cells #[.int .i64 a', .int .i64 b', .int .i64 c', .int .i64 d', .int .i64 n', .int .i64 s', .int .i64 k'] 25) := ⟨_, rfl⟩
  rw [← hw5] at B5
  rcases hgx with rfl | ⟨rfl, rfl, rfl, rfl, rfl, rfl, rfl, rfl⟩
  · rcases hgy with rfl | ⟨rfl, rfl, rfl, rfl, rfl, rfl, rfl, rfl⟩
    · by_cases hlt : n < n'
      · have HV : Hid (nw (0, [a, b, c, d, n, s, k]) (0, [a', b', c', d', n', s', k']) = (0, [a', b', c', d', n', s', k'])) := if_pos ⟨rfl, .inr hlt⟩
        rw [hw5] at B5
        go_wp2_with (refine wpList_st_row rfl 25 _ _ rfl br rfl _ rfl hrs (by kernel_rfl) rfl (by simp [Value.oneCell']) (fun w6 hp6 hg6 => ?_); have P6 := Lib.hid hp6; have B6 := Lib.hid (below_own B5.out HN.out hg6); clear hp6 hg6)
        refine ret_cell rfl br _ _ _ _ rfl P6.out Try.underlying25 rfl (by kernel_rfl) rfl ?_
        exact ⟨by rw [HV.out]; rfl, B6.out⟩
      · have HV : Hid (nw (0, [a, b, c, d, n, s, k]) (0, [a', b', c', d', n', s', k']) = (0, [a, b, c, d, n, s, k])) := if_neg (fun h => h.2.elim (fun h => h rfl) hlt)
        rw [hw5] at B5
        go_wp2_with (refine wpList_st_row rfl 25 _ _ rfl br rfl _ rfl hrs (by kernel_rfl) rfl (by simp [Value.oneCell']) (fun w6 hp6 hg6 => ?_); have P6 := Lib.hid hp6; have B6 := Lib.hid (below_own B5.out HN.out hg6); clear hp6 hg6)
        refine ret_cell rfl br _ _ _ _ rfl P6.out Try.underlying25 rfl (by kernel_rfl) rfl ?_
        exact ⟨by rw [HV.out]; rfl, B6.out⟩
    · have HV : Hid (nw (0, [a, b, c, d, n, s, k]) (223, [0, 0, 0, 0, 0, 0, 0]) = (0, [a, b, c, d, n, s, k])) := if_neg (fun h => absurd h.1 (by decide))
      rw [hw5] at B5
      go_wp2_with (refine wpList_st_row rfl 25 _ _ rfl br rfl _ rfl hrs (by kernel_rfl) rfl (by simp [Value.oneCell']) (fun w6 hp6 hg6 => ?_); have P6 := Lib.hid hp6; have B6 := Lib.hid (below_own B5.out HN.out hg6); clear hp6 hg6)
      refine ret_cell rfl br _ _ _ _ rfl P6.out Try.underlying25 rfl (by kernel_rfl) rfl ?_
      exact ⟨by rw [HV.out]; rfl, B6.out⟩
  · rcases hgy with rfl | ⟨rfl, rfl, rfl, rfl, rfl, rfl, rfl, rfl⟩
    · have HV : Hid (nw (223, [0, 0, 0, 0, 0, 0, 0]) (0, [a', b', c', d', n', s', k']) = (0, [a', b', c', d', n', s', k'])) := if_pos ⟨rfl, .inl (show (223 : Int) ≠ 0 by decide)⟩
      rw [hw5] at B5
      go_wp2_with (refine wpList_st_row rfl 25 _ _ rfl br rfl _ rfl hrs (by kernel_rfl) rfl (by simp [Value.oneCell']) (fun w6 hp6 hg6 => ?_); have P6 := Lib.hid hp6; have B6 := Lib.hid (below_own B5.out HN.out hg6); clear hp6 hg6)
      refine ret_cell rfl br _ _ _ _ rfl P6.out Try.underlying25 rfl (by kernel_rfl) rfl ?_
      exact ⟨by rw [HV.out]; rfl, B6.out⟩
    · have HV : Hid (nw (223, [0, 0, 0, 0, 0, 0, 0]) (223, [0, 0, 0, 0, 0, 0, 0]) = (223, [0, 0, 0, 0, 0, 0, 0])) := if_neg (fun h => absurd h.1 (by decide))
      rw [hw5] at B5
      go_wp2_with (refine wpList_st_row rfl 25 _ _ rfl br rfl _ rfl hrs (by kernel_rfl) rfl (by simp [Value.oneCell']) (fun w6 hp6 hg6 => ?_); have P6 := Lib.hid hp6; have B6 := Lib.hid (below_own B5.out HN.out hg6); clear hp6 hg6)
      refine ret_cell rfl br _ _ _ _ rfl P6.out Try.underlying25 rfl (by kernel_rfl) rfl ?_
      exact ⟨by rw [HV.out]; rfl, B6.out⟩

set_option maxHeartbeats 4000000 in
theorem rnewest_c (ta tb : ByteArray) (w : World) :
    Calls Try.prog 18 #[.string ta, .string tb] w fun e w' => e = .returned (mkV (nw (decR ta.data.toList 0) (decR tb.data.toList 1))) ∧ Below w.heap.size w w' := by
  obtain ⟨a, b, c, d, n, s, k, g, hx, hgx⟩ := decR_is ta.data.toList 0
  obtain ⟨a', b', c', d', n', s', k', g', hy, hgy⟩ := decR_is tb.data.toList 1
  have DX := Lib.hid (fun w' => rdecode_c ta 0 w')
  have DY := Lib.hid (fun w' => rdecode_c tb 1 w')
  have ex : decV ta.data.toList 0 = .tuple #[.agg #[.int .i64 a, .int .i64 b, .int .i64 c, .int .i64 d, .int .i64 n, .int .i64 s, .int .i64 k], .int .i64 g] := by unfold decV; rw [hx]; rfl
  have ey : decV tb.data.toList 1 = .tuple #[.agg #[.int .i64 a', .int .i64 b', .int .i64 c', .int .i64 d', .int .i64 n', .int .i64 s', .int .i64 k'], .int .i64 g'] := by unfold decV; rw [hy]; rfl
  rw [ex] at DX
  rw [ey] at DY
  rw [hx, hy]
  clear ex ey hx hy
  obtain ⟨w0, hw0⟩ : ∃ w0, w0 = w.alloc (.cells #[.int .i64 0, .int .i64 0, .int .i64 0, .int .i64 0, .int .i64 0, .int .i64 0, .int .i64 0] 25) := ⟨_, rfl⟩
  obtain ⟨br, hbr⟩ : ∃ br, br = w.heap.size := ⟨_, rfl⟩
  have B0 : Hid (Below w.heap.size w w0) := by unfold Hid; rw [hw0]; exact (Below.refl _ w).alloc (Nat.le_refl _) _
  have R0 : Hid (CT w0 br 0 0 0 0 0 0 0) := by unfold Hid CT; rw [hw0, hbr]; exact heap_alloc_new w _
  have HN : Hid (w.heap.size ≤ br) := by unfold Hid; omega
  go_enter Try.func18, Try.ntmps18
  go_wp2_with fail
  rw [← hw0, ← hbr]
  clear hw0 hbr
  refine (DX.out w0).mono ?_
  rintro e w1 ⟨rfl, hb1⟩
  have ha := (Below.refl w1.heap.size w1).alloc (Nat.le_refl _) (.cells #[.int .i64 a, .int .i64 b, .int .i64 c, .int .i64 d, .int .i64 n, .int .i64 s, .int .i64 k] 25)
  have hb2 := hb1.trans (ha.mono hb1.size)
  have X2 : Hid (CT (w1.alloc (.cells #[.int .i64 a, .int .i64 b, .int .i64 c, .int .i64 d, .int .i64 n, .int .i64 s, .int .i64 k] 25)) w1.heap.size a b c d n s k) := heap_alloc_new w1 _
  have B2 := Lib.hid (B0.out.trans (hb2.mono B0.out.size))
  have R2 := Lib.hid (R0.out.below hb2)
  clear hb1 ha hb2 B0 R0
  go_wp2_with fail
  generalize w1.alloc (.cells #[.int .i64 a, .int .i64 b, .int .i64 c, .int .i64 d, .int .i64 n, .int .i64 s, .int .i64 k] 25) = w2 at *
  generalize w1.heap.size = bx at *
  refine (DY.out w2).mono ?_
  rintro e w3 ⟨rfl, hb3⟩
  have ha := (Below.refl w3.heap.size w3).alloc (Nat.le_refl _) (.cells #[.int .i64 a', .int .i64 b', .int .i64 c', .int .i64 d', .int .i64 n', .int .i64 s', .int .i64 k'] 25)
  have hb4 := hb3.trans (ha.mono hb3.size)
  have Y5 : Hid (CT (w3.alloc (.cells #[.int .i64 a', .int .i64 b', .int .i64 c', .int .i64 d', .int .i64 n', .int .i64 s', .int .i64 k'] 25)) w3.heap.size a' b' c' d' n' s' k') := heap_alloc_new w3 _
  have X5 := Lib.hid (X2.out.below hb4)
  have B5 := Lib.hid (B2.out.trans (hb4.mono B2.out.size))
  have R5 := Lib.hid (R2.out.below hb4)
  clear hb3 ha hb4 B2 R2 X2 DX DY
  have hrs := R5.out
  obtain ⟨c0, c1, c2, c3, c4, c5, c6⟩ := X5.out.cell
  obtain ⟨d0, d1, d2, d3, d4, d5, d6⟩ := Y5.out.cell
  obtain ⟨w5, hw5⟩ : ∃ w5, w5 = w3.alloc (.cells #[.int .i64 a', .int .i64 b', .int .i64 c', .int .i64 d', .int .i64 n', .int .i64 s', .int .i64 k'] 25) := ⟨_, rfl⟩
  rw [← hw5] at B5
  rcases hgx with rfl | ⟨rfl, rfl, rfl, rfl, rfl, rfl, rfl, rfl⟩
  · rcases hgy with rfl | ⟨rfl, rfl, rfl, rfl, rfl, rfl, rfl, rfl⟩
    · by_cases hlt : n < n'
      · have HV : Hid (nw (0, [a, b, c, d, n, s, k]) (0, [a', b', c', d', n', s', k']) = (0, [a', b', c', d', n', s', k'])) := if_pos ⟨rfl, .inr hlt⟩
        rw [hw5] at B5
        go_wp2_with (refine wpList_st_row rfl 25 _ _ rfl br rfl _ rfl hrs (by kernel_rfl) rfl (by simp [Value.oneCell']) (fun w6 hp6 hg6 => ?_); have P6 := Lib.hid hp6; have B6 := Lib.hid (below_own B5.out HN.out hg6); clear hp6 hg6)
        refine ret_cell rfl br _ _ _ _ rfl P6.out Try.underlying25 rfl (by kernel_rfl) rfl ?_
        exact ⟨by rw [HV.out]; rfl, B6.out⟩
      · have HV : Hid (nw (0, [a, b, c, d, n, s, k]) (0, [a', b', c', d', n', s', k']) = (0, [a, b, c, d, n, s, k])) := if_neg (fun h => h.2.elim (fun h => h rfl) hlt)
        rw [hw5] at B5
        go_wp2_with (refine wpList_st_row rfl 25 _ _ rfl br rfl _ rfl hrs (by kernel_rfl) rfl (by simp [Value.oneCell']) (fun w6 hp6 hg6 => ?_); have P6 := Lib.hid hp6; have B6 := Lib.hid (below_own B5.out HN.out hg6); clear hp6 hg6)
        refine ret_cell rfl br _ _ _ _ rfl P6.out Try.underlying25 rfl (by kernel_rfl) rfl ?_
        exact ⟨by rw [HV.out]; rfl, B6.out⟩
    · have HV : Hid (nw (0, [a, b, c, d, n, s, k]) (223, [0, 0, 0, 0, 0, 0, 0]) = (0, [a, b, c, d, n, s, k])) := if_neg (fun h => absurd h.1 (by decide))
      rw [hw5] at B5
      go_wp2_with (refine wpList_st_row rfl 25 _ _ rfl br rfl _ rfl hrs (by kernel_rfl) rfl (by simp [Value.oneCell']) (fun w6 hp6 hg6 => ?_); have P6 := Lib.hid hp6; have B6 := Lib.hid (below_own B5.out HN.out hg6); clear hp6 hg6)
      refine ret_cell rfl br _ _ _ _ rfl P6.out Try.underlying25 rfl (by kernel_rfl) rfl ?_
      exact ⟨by rw [HV.out]; rfl, B6.out⟩
  · rcases hgy with rfl | ⟨rfl, rfl, rfl, rfl, rfl, rfl, rfl, rfl⟩
    · have HV : Hid (nw (223, [0, 0, 0, 0, 0, 0, 0]) (0, [a', b', c', d', n', s', k']) = (0, [a', b', c', d', n', s', k'])) := if_pos ⟨rfl, .inl (show (223 : Int) ≠ 0 by decide)⟩
      rw [hw5] at B5
      go_wp2_with (refine wpList_st_row rfl 25 _ _ rfl br rfl _ rfl hrs (by kernel_rfl) rfl (by simp [Value.oneCell']) (fun w6 hp6 hg6 => ?_); have P6 := Lib.hid hp6; have B6 := Lib.hid (below_own B5.out HN.out hg6); clear hp6 hg6)
      refine ret_cell rfl br _ _ _ _ rfl P6.out Try.underlying25 rfl (by kernel_rfl) rfl ?_
      exact ⟨by rw [HV.out]; rfl, B6.out⟩
    · have HV : Hid (nw (223, [0, 0, 0, 0, 0, 0, 0]) (223, [0, 0, 0, 0, 0, 0, 0]) = (223, [0, 0, 0, 0, 0, 0, 0])) := if_neg (fun h => absurd h.1 (by decide))
      rw [hw5] at B5
      go_wp2_with (refine wpList_st_row rfl 25 _ _ rfl br rfl _ rfl hrs (by kernel_rfl) rfl (by simp [Value.oneCell']) (fun w6 hp6 hg6 => ?_); have P6 := Lib.hid hp6; have B6 := Lib.hid (below_own B5.out HN.out hg6); clear hp6 hg6)
      refine ret_cell rfl br _ _ _ _ rfl P6.out Try.underlying25 rfl (by kernel_rfl) rfl ?_
      exact ⟨by rw [HV.out]; rfl, B6.out⟩
end Go.Proofs.Ytbhiijjnobcmoaa
