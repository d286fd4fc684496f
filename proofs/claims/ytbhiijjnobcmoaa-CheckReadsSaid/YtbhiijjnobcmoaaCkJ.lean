/- Checks: the reference's sector of a control block. -/
import Derived.Test.YtbhiijjnobcmoaaCkI
import Derived.Test.YtbhiijjnobcmoaaQuiet
namespace Go.Proofs.Ytbhiijjnobcmoaa
open Go.RowKit
set_option linter.unusedSimpArgs false
set_option maxRecDepth 100000

/-- While the reference lays a control block. -/
structure ER (W wx : World) (bt bx : Nat) (a b c d n s k : Int) : Prop where
  ct : CT wx bt a b c d n s k
  cf : CF wx bx a b c d
  bel : Below W.heap.size W wx
theorem ER.below {W wx w' : World} {bt bx : Nat} {a b c d n s k : Int} (H : ER W wx bt bx a b c d n s k) (hb : Below wx.heap.size wx w') : ER W w' bt bx a b c d n s k :=
  ⟨H.ct.below hb, H.cf.below hb, H.bel.trans (hb.mono H.bel.size)⟩

theorem bs2 (l r : List UInt8) : (⟨l.toArray⟩ : ByteArray) ++ ⟨r.toArray⟩ = ⟨(l ++ r).toArray⟩ := bs_append l ⟨r.toArray⟩

set_option maxHeartbeats 8000000 in
theorem rencode_c (a b c d n s k : Int) (w : World) :
    Calls Try.prog 8 #[.agg #[.int .i64 a, .int .i64 b, .int .i64 c, .int .i64 d, .int .i64 n, .int .i64 s, .int .i64 k]] w fun e w' => e = .returned (encV a b c d n s k) ∧ Below w.heap.size w w' := by
  obtain ⟨wb, hwb⟩ : ∃ wb, wb = w.alloc (.cells #[.int .i64 a, .int .i64 b, .int .i64 c, .int .i64 d, .int .i64 n, .int .i64 s, .int .i64 k] 25) := ⟨_, rfl⟩
  obtain ⟨bt, hbt⟩ : ∃ bt, bt = w.heap.size := ⟨_, rfl⟩
  have HB : Hid (Below w.heap.size w wb) := by unfold Hid; rw [hwb]; exact (Below.refl _ w).alloc (Nat.le_refl _) _
  have HC : Hid (CT wb bt a b c d n s k) := by unfold Hid CT; rw [hwb, hbt]; exact heap_alloc_new w _
  have HWB := Lib.hid hwb
  have HBT := Lib.hid hbt
  clear hwb hbt
  go_enter Try.func8, Try.ntmps8
  have cc := HC.out.cell
  rw [HWB.out, HBT.out] at cc
  obtain ⟨c0, c1, c2, c3, c4, c5, c6⟩ := cc
  go_wp2_with fail
  clear c0 c1 c2 c3 c4 c5 c6
  rw [← HWB.out, ← HBT.out]
  clear HWB HBT
  refine (rsound_c a b c d wb).mono ?_
  rintro e w1 ⟨rfl, hb1⟩
  have B1 := Lib.hid (HB.out.trans (hb1.mono HB.out.size))
  have C1 := Lib.hid (HC.out.below hb1)
  clear hb1 HB HC
  have cc := C1.out.cell
  obtain ⟨c0, c1, c2, c3, c4, c5, c6⟩ := cc
  obtain ⟨v1, h1⟩ : ∃ v1, v1 = okCfg a b c d := ⟨_, rfl⟩
  obtain ⟨v2, h2⟩ : ∃ v2, v2 = inB n 1 4294967295 := ⟨_, rfl⟩
  obtain ⟨v3, h3⟩ : ∃ v3, v3 = inB s 1 281474976710655 := ⟨_, rfl⟩
  obtain ⟨v4, h4⟩ : ∃ v4, v4 = inB k 0 281474976710655 := ⟨_, rfl⟩
  have HR : Hid (okCtl a b c d n s k = (v1 && v2 && v3 && v4)) := by unfold Hid okCtl; rw [h1, h2, h3, h4]
  have H2 := Lib.hid h2
  have H3 := Lib.hid h3
  have H4 := Lib.hid h4
  rw [← h1]
  clear h1 h2 h3 h4
  cases v1
  · go_wp2_with fail
    go_ret2
    exact ⟨congrArg Ending.returned (encV_no (by rw [HR.out]; rfl)).symm, B1.out⟩
  go_wp2_with fail
  refine (within_c n 1 4294967295 _).mono ?_
  rintro e w2 ⟨rfl, rfl⟩
  rw [← H2.out]
  cases v2
  · go_wp2_with fail
    go_ret2
    exact ⟨congrArg Ending.returned (encV_no (by rw [HR.out]; rfl)).symm, B1.out⟩
  go_wp2_with fail
  refine (within_c s 1 281474976710655 _).mono ?_
  rintro e w3 ⟨rfl, rfl⟩
  rw [← H3.out]
  cases v3
  · go_wp2_with fail
    go_ret2
    exact ⟨congrArg Ending.returned (encV_no (by rw [HR.out]; rfl)).symm, B1.out⟩
  go_wp2_with fail
  refine (within_c k 0 281474976710655 _).mono ?_
  rintro e w4 ⟨rfl, rfl⟩
  rw [← H4.out]
  cases v4
  · go_wp2_with fail
    go_ret2
    exact ⟨congrArg Ending.returned (encV_no (by rw [HR.out]; rfl)).symm, B1.out⟩
  clear H2 H3 H4
  have HOK : Hid (okCtl a b c d n s k = true) := by unfold Hid; rw [HR.out]; rfl
  clear HR
  obtain ⟨hcf, hn, hs, hk⟩ := okCtl_bd HOK.out
  obtain ⟨ha, hb, hc, hd⟩ := okCfg_bd hcf
  have H1 : Hid (ER w (w1.alloc (.cells #[.int .i64 a, .int .i64 b, .int .i64 c, .int .i64 d] 23)) bt w1.heap.size a b c d n s k) := by
    have hx : Below w1.heap.size w1 (w1.alloc (.cells #[.int .i64 a, .int .i64 b, .int .i64 c, .int .i64 d] 23)) := (Below.refl _ w1).alloc (Nat.le_refl _) _
    exact ⟨C1.out.below hx, heap_alloc_new w1 _, B1.out.trans (hx.mono B1.out.size)⟩
  obtain ⟨z1, hz1⟩ : ∃ z : ByteArray, z = ⟨(bg n 4).toArray⟩ := ⟨_, rfl⟩
  have R1 := Lib.hid (fun w' => rbig_4 n w' (by omega) (by omega))
  have s1 : z1.size = 4 := by rw [hz1, bg_sz]
  rw [← hz1] at R1
  have Z1 := Lib.hid hz1
  clear hz1
  obtain ⟨z2, hz2⟩ : ∃ z : ByteArray, z = ⟨(bg a 4).toArray⟩ := ⟨_, rfl⟩
  have R2 := Lib.hid (fun w' => rbig_4 a w' (by omega) (by omega))
  have s2 : z2.size = 4 := by rw [hz2, bg_sz]
  rw [← hz2] at R2
  have Z2 := Lib.hid hz2
  clear hz2
  obtain ⟨z3, hz3⟩ : ∃ z : ByteArray, z = ⟨(bg b 4).toArray⟩ := ⟨_, rfl⟩
  have R3 := Lib.hid (fun w' => rbig_4 b w' (by omega) (by omega))
  have s3 : z3.size = 4 := by rw [hz3, bg_sz]
  rw [← hz3] at R3
  have Z3 := Lib.hid hz3
  clear hz3
  obtain ⟨z4, hz4⟩ : ∃ z : ByteArray, z = ⟨(bg c 4).toArray⟩ := ⟨_, rfl⟩
  have R4 := Lib.hid (fun w' => rbig_4 c w' (by omega) (by omega))
  have s4 : z4.size = 4 := by rw [hz4, bg_sz]
  rw [← hz4] at R4
  have Z4 := Lib.hid hz4
  clear hz4
  obtain ⟨z5, hz5⟩ : ∃ z : ByteArray, z = ⟨(bg d 4).toArray⟩ := ⟨_, rfl⟩
  have R5 := Lib.hid (fun w' => rbig_4 d w' (by omega) (by omega))
  have s5 : z5.size = 4 := by rw [hz5, bg_sz]
  rw [← hz5] at R5
  have Z5 := Lib.hid hz5
  clear hz5
  obtain ⟨z6, hz6⟩ : ∃ z : ByteArray, z = ⟨(bg s 6).toArray⟩ := ⟨_, rfl⟩
  have R6 := Lib.hid (fun w' => rbig_6 s w' (by omega) (by omega))
  have s6 : z6.size = 6 := by rw [hz6, bg_sz]
  rw [← hz6] at R6
  have Z6 := Lib.hid hz6
  clear hz6
  obtain ⟨z7, hz7⟩ : ∃ z : ByteArray, z = ⟨(bg k 6).toArray⟩ := ⟨_, rfl⟩
  have R7 := Lib.hid (fun w' => rbig_6 k w' (by omega) (by omega))
  have s7 : z7.size = 6 := by rw [hz7, bg_sz]
  rw [← hz7] at R7
  have Z7 := Lib.hid hz7
  clear hz7
  obtain ⟨z8, hz8⟩ : ∃ z : ByteArray, z = ⟨(List.replicate 28 (0 : UInt8)).toArray⟩ := ⟨_, rfl⟩
  have R8 := Lib.hid (fun w' => rbig_0 w')
  have s8 : z8.size = 28 := by rw [hz8, bs_size]; rfl
  rw [← hz8] at R8
  have Z8 := Lib.hid hz8
  clear hz8
  clear hcf hn hs hk ha hb hc hd
  go_upto_region 4 with (fail)
  clear c0 c1 c2 c3 c4 c5 c6 B1 C1
  generalize w1.alloc (.cells #[.int .i64 a, .int .i64 b, .int .i64 c, .int .i64 d] 23) = w2 at *
  generalize w1.heap.size = bx at *
  refine wp_region_q (fun wx => ER w wx bt bx a b c d n s k) (by kernel_rfl) (by kernel_rfl) (H1.out.below (by exact (Below.refl _ _).drew)) ?_
  iterate 2 (refine q_take (v := ?_) (by kernel_rfl) (by intro w' hC; (try dsimp only at hC); obtain ⟨c0, c1, c2, c3, c4, c5, c6⟩ := hC.ct.cell; obtain ⟨d0, d1, d2, d3⟩ := hC.cf.cell; go_simp; try (with_reducible rfl)) ?_; try simp only [Act.put, List.setIfInBounds_toArray, List.set_cons_zero, List.set_cons_succ])
  refine q_call (v := .string z1) (f := ?_) (args := ?_) (by kernel_rfl) (by intro w' hC; (try dsimp only at hC); go_simp; first | (constructor <;> with_reducible rfl) | (with_reducible rfl)) (by intro w' hC; (try dsimp only at hC); exact (R1.out w').mono (fun e wx ⟨h, hh⟩ => ⟨h, hC.below hh⟩)) ?_
  try simp only [Act.put, List.setIfInBounds_toArray, List.set_cons_zero, List.set_cons_succ]
  iterate 2 (refine q_take (v := ?_) (by kernel_rfl) (by intro w' hC; (try dsimp only at hC); obtain ⟨c0, c1, c2, c3, c4, c5, c6⟩ := hC.ct.cell; obtain ⟨d0, d1, d2, d3⟩ := hC.cf.cell; go_simp; try (with_reducible rfl)) ?_; try simp only [Act.put, List.setIfInBounds_toArray, List.set_cons_zero, List.set_cons_succ])
  refine q_call (v := .string z2) (f := ?_) (args := ?_) (by kernel_rfl) (by intro w' hC; (try dsimp only at hC); go_simp; first | (constructor <;> with_reducible rfl) | (with_reducible rfl)) (by intro w' hC; (try dsimp only at hC); exact (R2.out w').mono (fun e wx ⟨h, hh⟩ => ⟨h, hC.below hh⟩)) ?_
  try simp only [Act.put, List.setIfInBounds_toArray, List.set_cons_zero, List.set_cons_succ]
  iterate 3 (refine q_take (v := ?_) (by kernel_rfl) (by intro w' hC; (try dsimp only at hC); obtain ⟨c0, c1, c2, c3, c4, c5, c6⟩ := hC.ct.cell; obtain ⟨d0, d1, d2, d3⟩ := hC.cf.cell; go_simp; try (with_reducible rfl)) ?_; try simp only [Act.put, List.setIfInBounds_toArray, List.set_cons_zero, List.set_cons_succ])
  refine q_call (v := .string z3) (f := ?_) (args := ?_) (by kernel_rfl) (by intro w' hC; (try dsimp only at hC); go_simp; first | (constructor <;> with_reducible rfl) | (with_reducible rfl)) (by intro w' hC; (try dsimp only at hC); exact (R3.out w').mono (fun e wx ⟨h, hh⟩ => ⟨h, hC.below hh⟩)) ?_
  try simp only [Act.put, List.setIfInBounds_toArray, List.set_cons_zero, List.set_cons_succ]
  iterate 3 (refine q_take (v := ?_) (by kernel_rfl) (by intro w' hC; (try dsimp only at hC); obtain ⟨c0, c1, c2, c3, c4, c5, c6⟩ := hC.ct.cell; obtain ⟨d0, d1, d2, d3⟩ := hC.cf.cell; go_simp; try (with_reducible rfl)) ?_; try simp only [Act.put, List.setIfInBounds_toArray, List.set_cons_zero, List.set_cons_succ])
  refine q_call (v := .string z4) (f := ?_) (args := ?_) (by kernel_rfl) (by intro w' hC; (try dsimp only at hC); go_simp; first | (constructor <;> with_reducible rfl) | (with_reducible rfl)) (by intro w' hC; (try dsimp only at hC); exact (R4.out w').mono (fun e wx ⟨h, hh⟩ => ⟨h, hC.below hh⟩)) ?_
  try simp only [Act.put, List.setIfInBounds_toArray, List.set_cons_zero, List.set_cons_succ]
  iterate 3 (refine q_take (v := ?_) (by kernel_rfl) (by intro w' hC; (try dsimp only at hC); obtain ⟨c0, c1, c2, c3, c4, c5, c6⟩ := hC.ct.cell; obtain ⟨d0, d1, d2, d3⟩ := hC.cf.cell; go_simp; try (with_reducible rfl)) ?_; try simp only [Act.put, List.setIfInBounds_toArray, List.set_cons_zero, List.set_cons_succ])
  refine q_call (v := .string z5) (f := ?_) (args := ?_) (by kernel_rfl) (by intro w' hC; (try dsimp only at hC); go_simp; first | (constructor <;> with_reducible rfl) | (with_reducible rfl)) (by intro w' hC; (try dsimp only at hC); exact (R5.out w').mono (fun e wx ⟨h, hh⟩ => ⟨h, hC.below hh⟩)) ?_
  try simp only [Act.put, List.setIfInBounds_toArray, List.set_cons_zero, List.set_cons_succ]
  iterate 3 (refine q_take (v := ?_) (by kernel_rfl) (by intro w' hC; (try dsimp only at hC); obtain ⟨c0, c1, c2, c3, c4, c5, c6⟩ := hC.ct.cell; obtain ⟨d0, d1, d2, d3⟩ := hC.cf.cell; go_simp; try (with_reducible rfl)) ?_; try simp only [Act.put, List.setIfInBounds_toArray, List.set_cons_zero, List.set_cons_succ])
  refine q_call (v := .string z6) (f := ?_) (args := ?_) (by kernel_rfl) (by intro w' hC; (try dsimp only at hC); go_simp; first | (constructor <;> with_reducible rfl) | (with_reducible rfl)) (by intro w' hC; (try dsimp only at hC); exact (R6.out w').mono (fun e wx ⟨h, hh⟩ => ⟨h, hC.below hh⟩)) ?_
  try simp only [Act.put, List.setIfInBounds_toArray, List.set_cons_zero, List.set_cons_succ]
  iterate 3 (refine q_take (v := ?_) (by kernel_rfl) (by intro w' hC; (try dsimp only at hC); obtain ⟨c0, c1, c2, c3, c4, c5, c6⟩ := hC.ct.cell; obtain ⟨d0, d1, d2, d3⟩ := hC.cf.cell; go_simp; try (with_reducible rfl)) ?_; try simp only [Act.put, List.setIfInBounds_toArray, List.set_cons_zero, List.set_cons_succ])
  refine q_call (v := .string z7) (f := ?_) (args := ?_) (by kernel_rfl) (by intro w' hC; (try dsimp only at hC); go_simp; first | (constructor <;> with_reducible rfl) | (with_reducible rfl)) (by intro w' hC; (try dsimp only at hC); exact (R7.out w').mono (fun e wx ⟨h, hh⟩ => ⟨h, hC.below hh⟩)) ?_
  try simp only [Act.put, List.setIfInBounds_toArray, List.set_cons_zero, List.set_cons_succ]
  iterate 2 (refine q_take (v := ?_) (by kernel_rfl) (by intro w' hC; (try dsimp only at hC); obtain ⟨c0, c1, c2, c3, c4, c5, c6⟩ := hC.ct.cell; obtain ⟨d0, d1, d2, d3⟩ := hC.cf.cell; go_simp; try (with_reducible rfl)) ?_; try simp only [Act.put, List.setIfInBounds_toArray, List.set_cons_zero, List.set_cons_succ])
  refine q_done ?_
  intro w5 hC5
  have H2 := Lib.hid hC5
  clear hC5 H1
  go_upto_region 5 with (fail)
  refine wp_region_q (fun wx => ER w wx bt bx a b c d n s k) (by kernel_rfl) (by kernel_rfl) (H2.out.below (by exact (Below.refl _ _).drew)) ?_
  iterate 1 (refine q_take (v := ?_) (by kernel_rfl) (by intro w' hC; (try dsimp only at hC); obtain ⟨c0, c1, c2, c3, c4, c5, c6⟩ := hC.ct.cell; obtain ⟨d0, d1, d2, d3⟩ := hC.cf.cell; go_simp; try (with_reducible rfl)) ?_; try simp only [Act.put, List.setIfInBounds_toArray, List.set_cons_zero, List.set_cons_succ])
  refine q_call (v := .string z8) (f := ?_) (args := ?_) (by kernel_rfl) (by intro w' hC; (try dsimp only at hC); go_simp; first | (constructor <;> with_reducible rfl) | (with_reducible rfl)) (by intro w' hC; (try dsimp only at hC); exact (R8.out w').mono (fun e wx ⟨h, hh⟩ => ⟨h, hC.below hh⟩)) ?_
  try simp only [Act.put, List.setIfInBounds_toArray, List.set_cons_zero, List.set_cons_succ]
  iterate 3 (refine q_take (v := ?_) (by kernel_rfl) (by intro w' hC; (try dsimp only at hC); obtain ⟨c0, c1, c2, c3, c4, c5, c6⟩ := hC.ct.cell; obtain ⟨d0, d1, d2, d3⟩ := hC.cf.cell; go_simp; try (with_reducible rfl)) ?_; try simp only [Act.put, List.setIfInBounds_toArray, List.set_cons_zero, List.set_cons_succ])
  refine q_call (v := .string z1) (f := ?_) (args := ?_) (by kernel_rfl) (by intro w' hC; (try dsimp only at hC); go_simp; first | (constructor <;> with_reducible rfl) | (with_reducible rfl)) (by intro w' hC; (try dsimp only at hC); exact (R1.out w').mono (fun e wx ⟨h, hh⟩ => ⟨h, hC.below hh⟩)) ?_
  try simp only [Act.put, List.setIfInBounds_toArray, List.set_cons_zero, List.set_cons_succ]
  iterate 3 (refine q_take (v := ?_) (by kernel_rfl) (by intro w' hC; (try dsimp only at hC); obtain ⟨c0, c1, c2, c3, c4, c5, c6⟩ := hC.ct.cell; obtain ⟨d0, d1, d2, d3⟩ := hC.cf.cell; go_simp; try (with_reducible rfl)) ?_; try simp only [Act.put, List.setIfInBounds_toArray, List.set_cons_zero, List.set_cons_succ])
  refine q_done ?_
  intro w6 hC6
  have H3 := Lib.hid hC6.bel
  clear hC6 H2
  go_wp2_with fail
  go_ret2
  rw [encV_yes HOK.out]
  refine ⟨?_, H3.out⟩
  show Ending.returned (.tuple #[.string (z1 ++ z2 ++ z3 ++ z4 ++ z5 ++ z6 ++ z7 ++ z8 ++ z1), .int .i64 0]) = _
  rw [Z1.out, Z2.out, Z3.out, Z4.out, Z5.out, Z6.out, Z7.out, Z8.out, bs2, bs2, bs2, bs2, bs2, bs2, bs2, bs2]
  rfl
end Go.Proofs.Ytbhiijjnobcmoaa
