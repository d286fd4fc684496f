/- Checks: the walk of CheckReads. -/
import Derived.Test.YtbhiijjnobcmoaaCkN
namespace Go.Proofs.Ytbhiijjnobcmoaa
open Go.RowKit
set_option linter.unusedSimpArgs false
set_option maxRecDepth 100000

theorem nw_is {x y : Int × List Int} (hx : ∃ a b c d n s k g : Int, x = (g, [a, b, c, d, n, s, k])) (hy : ∃ a b c d n s k g : Int, y = (g, [a, b, c, d, n, s, k])) : ∃ a b c d n s k g : Int, nw x y = (g, [a, b, c, d, n, s, k]) := by
  unfold nw
  split
  · exact hy
  · exact hx
theorem decR_is' (l : List UInt8) (p : Int) : ∃ a b c d n s k g : Int, decR l p = (g, [a, b, c, d, n, s, k]) := by
  obtain ⟨a, b, c, d, n, s, k, g, h, _⟩ := decR_is l p
  exact ⟨a, b, c, d, n, s, k, g, h⟩

set_option maxHeartbeats 8000000 in
theorem checkReads_w (ta tb : ByteArray) (place : Int) (w : World) :
    Calls Try.prog 6 #[.string ta, .string tb, .int .i64 place] w fun e w' => e = .returned (.bool true) ∧ Below w.heap.size w w' := by
  obtain ⟨a1, b1, c1, d1, n1, s1, k1, g1, h1⟩ := nw_is (decR_is' ta.data.toList 0) (decR_is' tb.data.toList 1)
  obtain ⟨a2, b2, c2, d2, n2, s2, k2, g2, h2⟩ := decR_is' ta.data.toList place
  have e1 : mkV (nw (decR ta.data.toList 0) (decR tb.data.toList 1)) = .tuple #[.agg #[.int .i64 a1, .int .i64 b1, .int .i64 c1, .int .i64 d1, .int .i64 n1, .int .i64 s1, .int .i64 k1], .int .i64 g1] := by rw [h1]; rfl
  have e2 : decV ta.data.toList place = .tuple #[.agg #[.int .i64 a2, .int .i64 b2, .int .i64 c2, .int .i64 d2, .int .i64 n2, .int .i64 s2, .int .i64 k2], .int .i64 g2] := by unfold decV; rw [h2]; rfl
  have F1 := Lib.hid (fun w' => newest_c ta tb w')
  have F2 := Lib.hid (fun w' => rnewest_c ta tb w')
  have F3 := Lib.hid (fun w' => decode_c ta place w')
  have F4 := Lib.hid (fun w' => rdecode_c ta place w')
  rw [e1] at F1 F2
  rw [e2] at F3 F4
  clear e1 e2 h1 h2
  go_enter Try.func6, Try.ntmps6
  go_wp2_with fail
  refine (F1.out w).mono ?_
  rintro e w1 ⟨rfl, hb1⟩
  have ha := (Below.refl w1.heap.size w1).alloc (Nat.le_refl _) (.cells #[.int .i64 a1, .int .i64 b1, .int .i64 c1, .int .i64 d1, .int .i64 n1, .int .i64 s1, .int .i64 k1] 25)
  have B1 := Lib.hid (hb1.trans (ha.mono hb1.size))
  have P1 : Hid (CT (w1.alloc (.cells #[.int .i64 a1, .int .i64 b1, .int .i64 c1, .int .i64 d1, .int .i64 n1, .int .i64 s1, .int .i64 k1] 25)) w1.heap.size a1 b1 c1 d1 n1 s1 k1) := heap_alloc_new w1 _
  clear hb1 ha
  go_wp2_with fail
  generalize w1.alloc (.cells #[.int .i64 a1, .int .i64 b1, .int .i64 c1, .int .i64 d1, .int .i64 n1, .int .i64 s1, .int .i64 k1] 25) = v1 at *
  generalize w1.heap.size = p1 at *
  refine (F2.out v1).mono ?_
  rintro e w2 ⟨rfl, hb2⟩
  have ha := (Below.refl w2.heap.size w2).alloc (Nat.le_refl _) (.cells #[.int .i64 a1, .int .i64 b1, .int .i64 c1, .int .i64 d1, .int .i64 n1, .int .i64 s1, .int .i64 k1] 25)
  have hb := hb2.trans (ha.mono hb2.size)
  have B2 := Lib.hid (B1.out.trans (hb.mono B1.out.size))
  have Q1 := Lib.hid (P1.out.below hb)
  have Q2 : Hid (CT (w2.alloc (.cells #[.int .i64 a1, .int .i64 b1, .int .i64 c1, .int .i64 d1, .int .i64 n1, .int .i64 s1, .int .i64 k1] 25)) w2.heap.size a1 b1 c1 d1 n1 s1 k1) := heap_alloc_new w2 _
  clear hb2 ha hb B1 P1
  go_wp2_with fail
  generalize w2.alloc (.cells #[.int .i64 a1, .int .i64 b1, .int .i64 c1, .int .i64 d1, .int .i64 n1, .int .i64 s1, .int .i64 k1] 25) = v2 at *
  generalize w2.heap.size = p2 at *
  refine (F3.out v2).mono ?_
  rintro e w3 ⟨rfl, hb3⟩
  have ha := (Below.refl w3.heap.size w3).alloc (Nat.le_refl _) (.cells #[.int .i64 a2, .int .i64 b2, .int .i64 c2, .int .i64 d2, .int .i64 n2, .int .i64 s2, .int .i64 k2] 25)
  have hb := hb3.trans (ha.mono hb3.size)
  have B3 := Lib.hid (B2.out.trans (hb.mono B2.out.size))
  have R1 := Lib.hid (Q1.out.below hb)
  have R2 := Lib.hid (Q2.out.below hb)
  have R3 : Hid (CT (w3.alloc (.cells #[.int .i64 a2, .int .i64 b2, .int .i64 c2, .int .i64 d2, .int .i64 n2, .int .i64 s2, .int .i64 k2] 25)) w3.heap.size a2 b2 c2 d2 n2 s2 k2) := heap_alloc_new w3 _
  clear hb3 ha hb B2 Q1 Q2
  go_wp2_with fail
  generalize w3.alloc (.cells #[.int .i64 a2, .int .i64 b2, .int .i64 c2, .int .i64 d2, .int .i64 n2, .int .i64 s2, .int .i64 k2] 25) = v3 at *
  generalize w3.heap.size = p3 at *
  refine (F4.out v3).mono ?_
  rintro e w4 ⟨rfl, hb4⟩
  have ha := (Below.refl w4.heap.size w4).alloc (Nat.le_refl _) (.cells #[.int .i64 a2, .int .i64 b2, .int .i64 c2, .int .i64 d2, .int .i64 n2, .int .i64 s2, .int .i64 k2] 25)
  have hb := hb4.trans (ha.mono hb4.size)
  have B4 := Lib.hid (B3.out.trans (hb.mono B3.out.size))
  have S1 := Lib.hid (R1.out.below hb)
  have S2 := Lib.hid (R2.out.below hb)
  have S3 := Lib.hid (R3.out.below hb)
  have S4 : Hid (CT (w4.alloc (.cells #[.int .i64 a2, .int .i64 b2, .int .i64 c2, .int .i64 d2, .int .i64 n2, .int .i64 s2, .int .i64 k2] 25)) w4.heap.size a2 b2 c2 d2 n2 s2 k2) := heap_alloc_new w4 _
  clear hb4 ha hb B3 R1 R2 R3 F1 F2 F3 F4
  obtain ⟨i0, i1, i2, i3, i4, i5, i6⟩ := S1.out.cell
  obtain ⟨j0, j1, j2, j3, j4, j5, j6⟩ := S2.out.cell
  obtain ⟨l0, l1, l2, l3, l4, l5, l6⟩ := S3.out.cell
  obtain ⟨m0, m1, m2, m3, m4, m5, m6⟩ := S4.out.cell
  go_wp2_with fail
  clear i0 i1 i2 i3 i4 i5 i6 j0 j1 j2 j3 j4 j5 j6 l0 l1 l2 l3 l4 l5 l6 m0 m1 m2 m3 m4 m5 m6 S1 S2 S3 S4
  generalize w4.alloc (.cells #[.int .i64 a2, .int .i64 b2, .int .i64 c2, .int .i64 d2, .int .i64 n2, .int .i64 s2, .int .i64 k2] 25) = v4 at *
  refine (awake_c _).mono ?_
  rintro e w6 ⟨rfl, hb6⟩
  have B6 := Lib.hid (B4.out.trans (hb6.mono B4.out.size))
  clear hb6
  go_wp2_with fail
  go_ret
  exact ⟨rfl, B6.out⟩
end Go.Proofs.Ytbhiijjnobcmoaa
