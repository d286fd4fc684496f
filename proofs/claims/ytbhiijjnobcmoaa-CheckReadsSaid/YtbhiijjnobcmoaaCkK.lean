/- Checks: the walk of CheckLays. -/
import Derived.Test.YtbhiijjnobcmoaaCkJ
namespace Go.Proofs.Ytbhiijjnobcmoaa
open Go.RowKit
set_option linter.unusedSimpArgs false
set_option maxRecDepth 100000

theorem layV_is (a b c d : Int) : ∃ x y z g : Int, layV a b c d = .tuple #[.agg #[.int .i64 x, .int .i64 y, .int .i64 z], .int .i64 g] := by
  unfold layV
  cases okCfg a b c d
  · exact ⟨_, _, _, _, rfl⟩
  · exact ⟨_, _, _, _, rfl⟩
theorem encV_is (a b c d n s k : Int) : ∃ (t : ByteArray) (g : Int), encV a b c d n s k = .tuple #[.string t, .int .i64 g] := by
  unfold encV
  cases okCtl a b c d n s k
  · exact ⟨_, _, rfl⟩
  · exact ⟨_, _, rfl⟩
/-- What CheckLays holds. -/
structure KL (W wx : World) (bt b1 b2 : Nat) (a b c d n s k x y z : Int) (ao : Option Addr) (len : Nat) (P L : Nat → Int) : Prop where
  ct : CT wx bt a b c d n s k
  l1 : LY wx b1 x y z
  l2 : LY wx b2 x y z
  ow : OwedIn wx ao len P L
  bel : Below W.heap.size W wx
theorem KL.below {W wx w' : World} {bt b1 b2 : Nat} {a b c d n s k x y z : Int} {ao : Option Addr} {len : Nat} {P L : Nat → Int} (H : KL W wx bt b1 b2 a b c d n s k x y z ao len P L) (hb : Below wx.heap.size wx w') : KL W w' bt b1 b2 a b c d n s k x y z ao len P L :=
  ⟨H.ct.below hb, H.l1.below hb, H.l2.below hb, H.ow.below hb, H.bel.trans (hb.mono H.bel.size)⟩

set_option maxHeartbeats 8000000 in
theorem checkLays_w (a b c d n s k at0 : Int) (ao : Option Addr) (len cap : Nat) (P L : Nat → Int) (w : World) (hlen : len ≤ 9223372036854775807) (ho : OwedIn w ao len P L) :
    Calls Try.prog 3 #[.agg #[.int .i64 a, .int .i64 b, .int .i64 c, .int .i64 d, .int .i64 n, .int .i64 s, .int .i64 k], .int .i64 at0, .slice ao len cap] w fun e w' => e = .returned (.bool true) ∧ Below w.heap.size w w' := by
  obtain ⟨wb, hwb⟩ : ∃ wb, wb = w.alloc (.cells #[.int .i64 a, .int .i64 b, .int .i64 c, .int .i64 d, .int .i64 n, .int .i64 s, .int .i64 k] 25) := ⟨_, rfl⟩
  obtain ⟨bt, hbt⟩ : ∃ bt, bt = w.heap.size := ⟨_, rfl⟩
  have hba := (Below.refl w.heap.size w).alloc (Nat.le_refl _) (.cells #[.int .i64 a, .int .i64 b, .int .i64 c, .int .i64 d, .int .i64 n, .int .i64 s, .int .i64 k] 25)
  rw [← hwb] at hba
  have B0 := Lib.hid hba
  have HO := Lib.hid (ho.below hba)
  have C0 : Hid (CT wb bt a b c d n s k) := by unfold Hid CT; rw [hwb, hbt]; exact heap_alloc_new w _
  clear hba ho
  obtain ⟨x, y, z, g, hl⟩ := layV_is a b c d
  obtain ⟨t, ge, he⟩ := encV_is a b c d n s k
  obtain ⟨q, hq⟩ : ∃ q, q = okCfg a b c d := ⟨_, rfl⟩
  obtain ⟨r, hr⟩ : ∃ r, r = redoN at0 L len := ⟨_, rfl⟩
  have CS := Lib.hid (fun w' => sound_c a b c d w')
  have CT := Lib.hid (fun w' => rsound_c a b c d w')
  have CR := Lib.hid (fun w' => redo_c at0 ao len cap P L w' hlen)
  have CQ := Lib.hid (fun w' => rredo_c at0 ao len cap P L w' hlen)
  rw [← hq] at CS CT
  rw [← hr] at CR CQ
  have CL := Lib.hid (fun w' => layout_c a b c d w')
  have CM := Lib.hid (fun w' => rlayout_c a b c d w')
  rw [hl] at CL CM
  have CE := Lib.hid (fun w' => encode_c a b c d n s k w')
  have CF := Lib.hid (fun w' => rencode_c a b c d n s k w')
  rw [he] at CE CF
  clear hq hr hl he
  go_enter Try.func3, Try.ntmps3
  have cc := C0.out.cell
  rw [hwb, hbt] at cc
  obtain ⟨c0, c1, c2, c3, c4, c5, c6⟩ := cc
  go_wp2_with fail
  clear c0 c1 c2 c3 c4 c5 c6
  rw [← hwb, ← hbt]
  clear hwb hbt
  refine (CE.out wb).mono ?_
  rintro e w1 ⟨rfl, hb1⟩
  have B1 := Lib.hid (B0.out.trans (hb1.mono B0.out.size))
  have C1 := Lib.hid (C0.out.below hb1)
  have O1 := Lib.hid (HO.out.below hb1)
  clear hb1 B0 C0 HO
  obtain ⟨c0, c1, c2, c3, c4, c5, c6⟩ := C1.out.cell
  go_wp2_with fail
  clear c0 c1 c2 c3 c4 c5 c6
  refine (CF.out w1).mono ?_
  rintro e w2 ⟨rfl, hb2⟩
  have B2 := Lib.hid (B1.out.trans (hb2.mono B1.out.size))
  have C2 := Lib.hid (C1.out.below hb2)
  have O2 := Lib.hid (O1.out.below hb2)
  clear hb2 B1 C1 O1
  obtain ⟨c0, c1, c2, c3, c4, c5, c6⟩ := C2.out.cell
  go_wp2_with fail
  clear c0 c1 c2 c3 c4 c5 c6
  refine (CL.out w2).mono ?_
  rintro e w3 ⟨rfl, hb3⟩
  have ha := (Below.refl w3.heap.size w3).alloc (Nat.le_refl _) (.cells #[.int .i64 x, .int .i64 y, .int .i64 z] 31)
  have hb4 := hb3.trans (ha.mono hb3.size)
  have L4 : Hid (LY (w3.alloc (.cells #[.int .i64 x, .int .i64 y, .int .i64 z] 31)) w3.heap.size x y z) := heap_alloc_new w3 _
  have B4 := Lib.hid (B2.out.trans (hb4.mono B2.out.size))
  have C4 := Lib.hid (C2.out.below hb4)
  have O4 := Lib.hid (O2.out.below hb4)
  clear hb3 ha hb4 B2 C2 O2
  obtain ⟨c0, c1, c2, c3, c4, c5, c6⟩ := C4.out.cell
  go_wp2_with fail
  clear c0 c1 c2 c3 c4 c5 c6
  generalize w3.alloc (.cells #[.int .i64 x, .int .i64 y, .int .i64 z] 31) = w4 at *
  generalize w3.heap.size = b1 at *
  refine (CM.out w4).mono ?_
  rintro e w5 ⟨rfl, hb5⟩
  have ha := (Below.refl w5.heap.size w5).alloc (Nat.le_refl _) (.cells #[.int .i64 x, .int .i64 y, .int .i64 z] 31)
  have hb6 := hb5.trans (ha.mono hb5.size)
  have H1 : Hid (KL w (w5.alloc (.cells #[.int .i64 x, .int .i64 y, .int .i64 z] 31)) bt b1 w5.heap.size a b c d n s k x y z ao len P L) :=
    ⟨C4.out.below hb6, L4.out.below hb6, heap_alloc_new w5 _, O4.out.below hb6, B4.out.trans (hb6.mono B4.out.size)⟩
  clear hb5 ha hb6 B4 C4 O4 L4
  go_upto_region 5 with (fail)
  generalize w5.alloc (.cells #[.int .i64 x, .int .i64 y, .int .i64 z] 31) = w6 at *
  generalize w5.heap.size = b2 at *
  refine wp_region_q (fun wx => KL w wx bt b1 b2 a b c d n s k x y z ao len P L) (by kernel_rfl) (by kernel_rfl) (H1.out.below (by exact (Below.refl _ _).drew)) ?_
  iterate 2 (refine q_take (v := ?_) (by kernel_rfl) (by intro w' hC; (try dsimp only at hC); obtain ⟨c0, c1, c2, c3, c4, c5, c6⟩ := hC.ct.cell; obtain ⟨l0, l1, l2⟩ := hC.l1.cell; obtain ⟨m0, m1, m2⟩ := hC.l2.cell; go_simp; try (with_reducible rfl)) ?_; try simp only [Act.put, List.setIfInBounds_toArray, List.set_cons_zero, List.set_cons_succ])
  refine q_call (v := .bool q) (f := ?_) (args := ?_) (by kernel_rfl) (by intro w' hC; (try dsimp only at hC); go_simp; first | (constructor <;> with_reducible rfl) | (with_reducible rfl)) (by intro w' hC; (try dsimp only at hC); exact (CS.out w').mono (fun e wx ⟨h, hh⟩ => ⟨h, hC.below hh⟩)) ?_
  try simp only [Act.put, List.setIfInBounds_toArray, List.set_cons_zero, List.set_cons_succ]
  iterate 2 (refine q_take (v := ?_) (by kernel_rfl) (by intro w' hC; (try dsimp only at hC); obtain ⟨c0, c1, c2, c3, c4, c5, c6⟩ := hC.ct.cell; obtain ⟨l0, l1, l2⟩ := hC.l1.cell; obtain ⟨m0, m1, m2⟩ := hC.l2.cell; go_simp; try (with_reducible rfl)) ?_; try simp only [Act.put, List.setIfInBounds_toArray, List.set_cons_zero, List.set_cons_succ])
  refine q_call (v := .bool q) (f := ?_) (args := ?_) (by kernel_rfl) (by intro w' hC; (try dsimp only at hC); go_simp; first | (constructor <;> with_reducible rfl) | (with_reducible rfl)) (by intro w' hC; (try dsimp only at hC); exact (CT.out w').mono (fun e wx ⟨h, hh⟩ => ⟨h, hC.below hh⟩)) ?_
  try simp only [Act.put, List.setIfInBounds_toArray, List.set_cons_zero, List.set_cons_succ]
  iterate 24 (refine q_take (v := ?_) (by kernel_rfl) (by intro w' hC; (try dsimp only at hC); obtain ⟨c0, c1, c2, c3, c4, c5, c6⟩ := hC.ct.cell; obtain ⟨l0, l1, l2⟩ := hC.l1.cell; obtain ⟨m0, m1, m2⟩ := hC.l2.cell; go_simp; try (with_reducible rfl)) ?_; try simp only [Act.put, List.setIfInBounds_toArray, List.set_cons_zero, List.set_cons_succ])
  refine q_call (v := .int .i64 r) (f := ?_) (args := ?_) (by kernel_rfl) (by intro w' hC; (try dsimp only at hC); go_simp; first | (constructor <;> with_reducible rfl) | (with_reducible rfl)) (by intro w' hC; (try dsimp only at hC); exact (CR.out w' hC.ow).mono (fun e wx ⟨h, hh⟩ => ⟨h, hC.below hh⟩)) ?_
  try simp only [Act.put, List.setIfInBounds_toArray, List.set_cons_zero, List.set_cons_succ]
  iterate 2 (refine q_take (v := ?_) (by kernel_rfl) (by intro w' hC; (try dsimp only at hC); obtain ⟨c0, c1, c2, c3, c4, c5, c6⟩ := hC.ct.cell; obtain ⟨l0, l1, l2⟩ := hC.l1.cell; obtain ⟨m0, m1, m2⟩ := hC.l2.cell; go_simp; try (with_reducible rfl)) ?_; try simp only [Act.put, List.setIfInBounds_toArray, List.set_cons_zero, List.set_cons_succ])
  refine q_call (v := .int .i64 r) (f := ?_) (args := ?_) (by kernel_rfl) (by intro w' hC; (try dsimp only at hC); go_simp; first | (constructor <;> with_reducible rfl) | (with_reducible rfl)) (by intro w' hC; (try dsimp only at hC); exact (CQ.out w' hC.ow).mono (fun e wx ⟨h, hh⟩ => ⟨h, by rw [← hh]; exact hC⟩)) ?_
  try simp only [Act.put, List.setIfInBounds_toArray, List.set_cons_zero, List.set_cons_succ]
  iterate 3 (refine q_take (v := ?_) (by kernel_rfl) (by intro w' hC; (try dsimp only at hC); obtain ⟨c0, c1, c2, c3, c4, c5, c6⟩ := hC.ct.cell; obtain ⟨l0, l1, l2⟩ := hC.l1.cell; obtain ⟨m0, m1, m2⟩ := hC.l2.cell; go_simp; try (with_reducible rfl)) ?_; try simp only [Act.put, List.setIfInBounds_toArray, List.set_cons_zero, List.set_cons_succ])
  refine q_call (v := .bool true) (f := ?_) (args := ?_) (by kernel_rfl) (by intro w' hC; (try dsimp only at hC); go_simp; first | (constructor <;> with_reducible rfl) | (with_reducible rfl)) (by intro w' hC; (try dsimp only at hC); exact (awake_c w').mono (fun e wx ⟨h, hh⟩ => ⟨h, hC.below hh⟩)) ?_
  try simp only [Act.put, List.setIfInBounds_toArray, List.set_cons_zero, List.set_cons_succ]
  iterate 2 (refine q_take (v := ?_) (by kernel_rfl) (by intro w' hC; (try dsimp only at hC); obtain ⟨c0, c1, c2, c3, c4, c5, c6⟩ := hC.ct.cell; obtain ⟨l0, l1, l2⟩ := hC.l1.cell; obtain ⟨m0, m1, m2⟩ := hC.l2.cell; go_simp; try (with_reducible rfl)) ?_; try simp only [Act.put, List.setIfInBounds_toArray, List.set_cons_zero, List.set_cons_succ])
  refine q_done ?_
  intro w7 hC7
  have H3 := Lib.hid hC7.bel
  clear hC7 H1
  go_wp2_with fail
  go_ret
  exact ⟨rfl, H3.out⟩
end Go.Proofs.Ytbhiijjnobcmoaa
