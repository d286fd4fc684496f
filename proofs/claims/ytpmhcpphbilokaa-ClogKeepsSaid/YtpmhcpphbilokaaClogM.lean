/- Statuses: the walk of ClogApart. -/
import Derived.Test.YtpmhcpphbilokaaClogL
namespace Go.Proofs.Ytpmhcpphbilokaa
open Go.RowKit
set_option linter.unusedSimpArgs false
set_option maxRecDepth 100000

/-- A change, boxed. -/
def OB (w : World) (b : Nat) (c : Bool) (x s : Int) : Prop := w.heap[b]? = some (.cells #[.bool c, .int .i64 x, .int .u8 s] 32 (0, 0))
theorem OB.cell {w : World} {b : Nat} {c : Bool} {x s : Int} (H : OB w b c x s) : w.cell? ⟨b, 0, none⟩ = some (.bool c) ∧ w.cell? ⟨b, 1, none⟩ = some (.int .i64 x) ∧ w.cell? ⟨b, 2, none⟩ = some (.int .u8 s) := by
  unfold OB at H
  refine ⟨?_, ?_, ?_⟩ <;> (simp only [World.cell?, H]; rfl)
theorem OB.lt {w : World} {b : Nat} {c : Bool} {x s : Int} (H : OB w b c x s) : b < w.heap.size := World.block_lt_of_cell? w _ H.cell.1
theorem OB.grown {w w' : World} {b : Nat} {c : Bool} {x s : Int} (H : OB w b c x s) {row : Option Nat} (hg : w.grownBy w' row) (hr : some b ≠ row) : OB w' b c x s := (hg.block b H.lt hr).trans H
theorem OB.below {w w' : World} {b : Nat} {c : Bool} {x s : Int} (H : OB w b c x s) (hb : Below w.heap.size w w') : OB w' b c x s := H.grown (grown_of hb) (by simp)
theorem OB.ne {w : World} {b b' : Nat} {c : Bool} {x s : Int} (H : OB w b c x s) {a0 a1 a2 a3 : Int} {h : ByteArray} {v : Value} (P : PK w b' a0 a1 a2 a3 h v) : b ≠ b' := by
  rintro rfl
  unfold OB PK at *
  rw [H] at P
  cases P
/-- Two changes, boxed. -/
structure TwoS (W wx : World) (b1 b2 : Nat) (c1 : Bool) (x1 s1 : Int) (c2 : Bool) (x2 s2 : Int) : Prop where
  a : OB wx b1 c1 x1 s1
  b : OB wx b2 c2 x2 s2
  bel : Below W.heap.size W wx
theorem TwoS.below {W wx w' : World} {b1 b2 : Nat} {c1 : Bool} {x1 s1 : Int} {c2 : Bool} {x2 s2 : Int} (H : TwoS W wx b1 b2 c1 x1 s1 c2 x2 s2) (hb : Below wx.heap.size wx w') : TwoS W w' b1 b2 c1 x1 s1 c2 x2 s2 :=
  ⟨H.a.below hb, H.b.below hb, H.bel.trans (hb.mono H.bel.size)⟩
theorem TwoS.st {W wx w' : World} {b1 b2 : Nat} {c1 : Bool} {x1 s1 : Int} {c2 : Bool} {x2 s2 : Int} (H : TwoS W wx b1 b2 c1 x1 s1 c2 x2 s2) {b' : Nat} {a0 a1 a2 a3 : Int} {h : ByteArray} {v : Value} (P : PK wx b' a0 a1 a2 a3 h v) (hg : wx.grownBy w' (some b')) (hn : W.heap.size ≤ b') : TwoS W w' b1 b2 c1 x1 s1 c2 x2 s2 :=
  ⟨H.a.grown hg (by simpa using H.a.ne P), H.b.grown hg (by simpa using H.b.ne P), below_own H.bel hn hg⟩

set_option maxHeartbeats 4000000 in
theorem clogApart_w (m : Int) (ca : Bool) (xa sa : Int) (cb : Bool) (xb sb : Int) (w : World) (hsa : 0 ≤ sa) (hsb : 0 ≤ sb) :
    Calls Try.prog 6 #[.int .i64 m, .agg #[.bool ca, .int .i64 xa, .int .u8 sa], .agg #[.bool cb, .int .i64 xb, .int .u8 sb]] w fun e w' => e = .returned (.bool true) ∧ Below w.heap.size w w' := by
  obtain ⟨wb, hwb⟩ : ∃ wb, wb = w.alloc (.cells #[.bool ca, .int .i64 xa, .int .u8 sa] 32) := ⟨_, rfl⟩
  obtain ⟨wc, hwc⟩ : ∃ wc, wc = wb.alloc (.cells #[.bool cb, .int .i64 xb, .int .u8 sb] 32) := ⟨_, rfl⟩
  obtain ⟨b1, hb1⟩ : ∃ b1, b1 = w.heap.size := ⟨_, rfl⟩
  obtain ⟨b2, hb2⟩ : ∃ b2, b2 = w.heap.size + 1 := ⟨_, rfl⟩
  have e2 : b2 = wb.heap.size := by rw [hb2, hwb]; simp
  have T0 : Hid (TwoS w wc b1 b2 ca xa sa cb xb sb) := by
    have q : Below w.heap.size w wb := by rw [hwb]; exact (Below.refl _ w).alloc (Nat.le_refl _) _
    have o1 : OB wb b1 ca xa sa := by rw [hwb, hb1]; exact heap_alloc_new w _
    refine ⟨?_, ?_, ?_⟩
    · rw [hwc]; exact o1.below ((Below.refl _ _).alloc (Nat.le_refl _) _)
    · rw [hwc, e2]; exact heap_alloc_new wb _
    · rw [hwc]; exact q.alloc q.size _
  have HWB := Lib.hid hwb
  have HWC := Lib.hid hwc
  have HB1 := Lib.hid hb1
  have HB2 := Lib.hid hb2
  clear hwb hwc hb1 hb2 e2
  go_enter Try.func6, Try.ntmps6
  go_wp2_with fail
  rw [← HWB.out, ← HWC.out, ← HB2.out, ← HB1.out]
  clear HWB HWC HB1 HB2
  refine (blank_c m 1 wc).mono ?_
  rintro e w1 ⟨⟨ls1, k1, ao1, n1, S1, rfl, hs1, hp1⟩, hb1⟩
  have T1 := Lib.hid (T0.out.below hb1)
  have hip := pg_new w1
  have HN1 : Hid (w.heap.size ≤ w1.heap.size) := T1.out.bel.size
  clear T0 hb1
  cases hm : okm m
  · have e1 : blV m 1 = (1, 0, 0, []) := by unfold blV; rw [hm]; rfl
    rw [e1]
    have HT1 := T1
    clear e1 hp1 hs1
    go_wp2_with (refine wpList_st_page' rfl _ _ rfl w1.heap.size rfl _ _ _ _ _ _ rfl rfl hip (fun w2 hp2 hg2 => ?_); have T2 := Lib.hid (HT1.out.below (new_below hg2)); (obtain ⟨q0, q1, q2⟩ := T2.out.a.cell); (obtain ⟨r0, r1, r2⟩ := T2.out.b.cell); clear hg2 hp2)
    clear q0 q1 q2 r0 r1 r2
    refine (awake_k _).mono ?_
    rintro e w3 ⟨rfl, hb3⟩
    have T3 := Lib.hid (T2.out.below hb3)
    clear hb3
    go_wp2_with fail
    go_ret
    exact ⟨rfl, T3.out.bel⟩
  have hx1 : okx m 1 = true := okx_yes (by omega) (by have := okm_bd hm; omega)
  have e1 : blV m 1 = (0, 0, 1, bsOf (fun _ => 0) (sz m)) := by unfold blV; rw [hm, hx1]; rfl
  rw [e1] at hp1 ⊢
  clear e1
  obtain ⟨rfl, rfl, rfl, h1⟩ := pr_of hp1 hs1 hm hx1 (by decide) (okf_zero _)
  clear hp1 hs1
  have H1 := Lib.hid h1
  clear h1
  cases hxx : (xa == xb)
  rotate_left
  · have HT1 := T1
    go_wp2_with (refine wpList_st_page' rfl _ _ rfl w1.heap.size rfl _ _ _ _ _ _ rfl rfl hip (fun w2 hp2 hg2 => ?_); have T2 := Lib.hid (HT1.out.below (new_below hg2)); (obtain ⟨q0, q1, q2⟩ := T2.out.a.cell); (obtain ⟨r0, r1, r2⟩ := T2.out.b.cell); clear hg2 hp2)
    clear q0 q1 q2 r0 r1 r2
    refine (awake_k _).mono ?_
    rintro e w3 ⟨rfl, hb3⟩
    have T3 := Lib.hid (T2.out.below hb3)
    clear hb3
    go_wp2_with fail
    go_ret
    exact ⟨rfl, T3.out.bel⟩
  have HT1 := T1
  clear T1
  go_wp2_with (refine wpList_st_page' rfl _ _ rfl w1.heap.size rfl _ _ _ _ _ _ rfl rfl hip (fun w2 hp2 hg2 => ?_); have T2 := Lib.hid (HT1.out.below (new_below hg2)); have L2 : Hid (LV m w2 w1.heap.size 0 1 (fun _ => 0) ao1 S1) := (by exact ⟨hp2, H1.out.below (new_below hg2)⟩); (obtain ⟨c0, c1, c2, c3, c4, c5⟩ := hp2.cell); (obtain ⟨q0, q1, q2⟩ := T2.out.a.cell); (obtain ⟨r0, r1, r2⟩ := T2.out.b.cell); clear hg2 hp2)
  clear q0 q1 q2 r0 r1 r2 c0 c1 c2 c3 c4 c5 HT1 H1 hip
  generalize w1.heap.size = bp at *
  refine (pr_set m 0 1 xa sa _ _ _ w2 L2.out.pr hsa).mono ?_
  rintro e w3 ⟨⟨ls3, k3, ao3, n3, S3, rfl, hs3, hp3⟩, hb3⟩
  have T3 := Lib.hid (T2.out.below hb3)
  have L3 := Lib.hid (L2.out.below hb3)
  have HN3 : Hid (w.heap.size ≤ w3.heap.size) := T3.out.bel.size
  have hip := pg_new w3
  clear hb3 T2 L2
  by_cases hA : okx m xa = true ∧ sa ≤ 3
  rotate_left
  · have e1 : setR m 0 1 (fun _ => 0) xa sa = (1, 0, 0, []) := by unfold setR; rw [if_neg hA]
    rw [e1]
    clear e1 hp3 hs3
    go_wp2_with (refine wpList_st_page' rfl _ _ rfl w3.heap.size rfl _ _ _ _ _ _ rfl rfl hip (fun w4 hp4 hg4 => ?_); have T4 := Lib.hid (T3.out.below (new_below hg4)); have L4 := Lib.hid (L3.out.below (new_below hg4)); (obtain ⟨c0, c1, c2, c3, c4, c5⟩ := L4.out.pk.cell); (obtain ⟨q0, q1, q2⟩ := T4.out.a.cell); (obtain ⟨r0, r1, r2⟩ := T4.out.b.cell); clear hg4 hp4)
    clear q0 q1 q2 r0 r1 r2 c0 c1 c2 c3 c4 c5 hip T3 L3
    refine (pr_set m 0 1 xb sb _ _ _ w4 L4.out.pr hsb).mono ?_
    rintro e w5 ⟨⟨ls5, k5, ao5, n5, S5, rfl, hs5, hp5⟩, hb5⟩
    have T5 := Lib.hid (T4.out.below hb5)
    have hip := pg_new w5
    clear hb5 hs5 hp5 T4 L4
    go_wp2_with (refine wpList_st_page' rfl _ _ rfl w5.heap.size rfl _ _ _ _ _ _ rfl rfl hip (fun w6 hp6 hg6 => ?_); have T6 := Lib.hid (T5.out.below (new_below hg6)); clear hg6 hp6)
    clear hip T5
    refine (awake_k _).mono ?_
    rintro e w7 ⟨rfl, hb7⟩
    have T7 := Lib.hid (T6.out.below hb7)
    clear hb7
    go_wp2_with fail
    go_ret
    exact ⟨rfl, T7.out.bel⟩
  have hf0 : okf (fun _ => 0) m.toNat := okf_zero _
  have e1 : setR m 0 1 (fun _ => 0) xa sa = (0, 0, 1, bsOf (upd (fun _ => 0) (xa - 1).toNat sa.toNat) (sz m)) := by unfold setR; rw [if_pos hA]
  rw [e1] at hp3 ⊢
  clear e1
  obtain ⟨rfl, rfl, rfl, h3⟩ := pr_of hp3 hs3 hm hx1 (by decide) (set_ok hf0 hA.1 hA.2)
  have H3 := Lib.hid h3
  clear h3 hp3 hs3
  go_wp2_with (refine wpList_st_page' rfl _ _ rfl w3.heap.size rfl _ _ _ _ _ _ rfl rfl hip (fun w4 hp4 hg4 => ?_); have T4 := Lib.hid (T3.out.below (new_below hg4)); have L4 := Lib.hid (L3.out.below (new_below hg4)); have M4 : Hid (LV m w4 w3.heap.size 0 1 (upd (fun _ => 0) (xa - 1).toNat sa.toNat) ao3 S3) := (by exact ⟨hp4, H3.out.below (new_below hg4)⟩); (obtain ⟨c0, c1, c2, c3, c4, c5⟩ := L4.out.pk.cell); (obtain ⟨q0, q1, q2⟩ := T4.out.a.cell); (obtain ⟨r0, r1, r2⟩ := T4.out.b.cell); clear hg4 hp4)
  clear q0 q1 q2 r0 r1 r2 c0 c1 c2 c3 c4 c5 hip T3 L3 H3
  generalize w3.heap.size = bq at *
  refine (pr_set m 0 1 xb sb _ _ _ w4 L4.out.pr hsb).mono ?_
  rintro e w5 ⟨⟨ls5, k5, ao5, n5, S5, rfl, hs5, hp5⟩, hb5⟩
  have T5 := Lib.hid (T4.out.below hb5)
  have M5 := Lib.hid (M4.out.below hb5)
  have HN5 : Hid (w.heap.size ≤ w5.heap.size) := T5.out.bel.size
  have hip := pg_new w5
  have HQR : Hid (bq < w5.heap.size) := M5.out.pk.lt
  clear hb5 T4 L4 M4
  by_cases hB : okx m xb = true ∧ sb ≤ 3
  rotate_left
  · have e1 : setR m 0 1 (fun _ => 0) xb sb = (1, 0, 0, []) := by unfold setR; rw [if_neg hB]
    rw [e1]
    clear e1 hp5 hs5
    go_wp2_with (refine wpList_st_page' rfl _ _ rfl w5.heap.size rfl _ _ _ _ _ _ rfl rfl hip (fun w6 hp6 hg6 => ?_); have T6 := Lib.hid (T5.out.below (new_below hg6)); clear hg6 hp6)
    clear hip T5
    refine (awake_k _).mono ?_
    rintro e w7 ⟨rfl, hb7⟩
    have T7 := Lib.hid (T6.out.below hb7)
    clear hb7
    go_wp2_with fail
    go_ret
    exact ⟨rfl, T7.out.bel⟩
  have e1 : setR m 0 1 (fun _ => 0) xb sb = (0, 0, 1, bsOf (upd (fun _ => 0) (xb - 1).toNat sb.toNat) (sz m)) := by unfold setR; rw [if_pos hB]
  rw [e1] at hp5 ⊢
  clear e1
  obtain ⟨rfl, rfl, rfl, h5⟩ := pr_of hp5 hs5 hm hx1 (by decide) (set_ok hf0 hB.1 hB.2)
  have H5 := Lib.hid h5
  clear h5 hp5 hs5
  obtain ⟨fa, hfa⟩ : ∃ fa, fa = upd (fun _ => 0) (xa - 1).toNat sa.toNat := ⟨_, rfl⟩
  obtain ⟨fb, hfb⟩ : ∃ fb, fb = upd (fun _ => 0) (xb - 1).toNat sb.toNat := ⟨_, rfl⟩
  rw [← hfa] at M5
  rw [← hfb] at H5
  go_wp2_with (refine wpList_st_page' rfl _ _ rfl w5.heap.size rfl _ _ _ _ _ _ rfl rfl hip (fun w6 hp6 hg6 => ?_); have T6 := Lib.hid (T5.out.below (new_below hg6)); have M6 := Lib.hid (M5.out.below (new_below hg6)); have R6 : Hid (LV m w6 w5.heap.size 0 1 fb ao5 S5) := (by exact ⟨hp6, H5.out.below (new_below hg6)⟩); (obtain ⟨c0, c1, c2, c3, c4, c5⟩ := M6.out.pk.cell); (obtain ⟨q0, q1, q2⟩ := T6.out.a.cell); (obtain ⟨r0, r1, r2⟩ := T6.out.b.cell); clear hg6 hp6)
  clear q0 q1 q2 r0 r1 r2 c0 c1 c2 c3 c4 c5 hip T5 M5 H5
  generalize w5.heap.size = br at *
  -- q, with b
  refine (pr_set m 0 1 xb sb _ _ _ w6 M6.out.pr hsb).mono ?_
  rintro e w7 ⟨⟨ls7, k7, ao7, n7, S7, rfl, hs7, hp7⟩, hb7⟩
  have e1 : setR m 0 1 fa xb sb = (0, 0, 1, bsOf (upd fa (xb - 1).toNat sb.toNat) (sz m)) := by unfold setR; rw [if_pos hB]
  rw [e1] at hp7 ⊢
  clear e1
  obtain ⟨rfl, rfl, rfl, h7⟩ := pr_of hp7 hs7 hm hx1 (by decide) (set_ok M6.out.pr.hf hB.1 hB.2)
  have H7 := Lib.hid h7
  have T7 := Lib.hid (T6.out.below hb7)
  have M7 := Lib.hid (M6.out.below hb7)
  have R7 := Lib.hid (R6.out.below hb7)
  have hip := M7.out.pk.is
  clear h7 hp7 hs7 hb7 T6 M6 R6
  obtain ⟨fab, hfab⟩ : ∃ fab, fab = upd fa (xb - 1).toNat sb.toNat := ⟨_, rfl⟩
  rw [← hfab] at H7
  have HNQ : Hid (br ≠ bq) := by have := HQR.out; unfold Hid; omega
  go_wp2_with (refine wpList_st_page' rfl _ _ rfl bq rfl _ _ _ _ _ _ rfl rfl hip (fun w8 hp8 hg8 => ?_); have T8 := Lib.hid (T7.out.st M7.out.pk hg8 HN3.out); have M8 : Hid (LV m w8 bq 0 1 fab ao7 S7) := (by exact ⟨hp8, H7.out.st M7.out.pk hg8⟩); have R8 := Lib.hid (R7.out.st M7.out.pk hg8 HNQ.out); (obtain ⟨c0, c1, c2, c3, c4, c5⟩ := R8.out.pk.cell); (obtain ⟨q0, q1, q2⟩ := T8.out.a.cell); (obtain ⟨r0, r1, r2⟩ := T8.out.b.cell); clear hg8 hp8)
  clear q0 q1 q2 r0 r1 r2 c0 c1 c2 c3 c4 c5 hip T7 M7 R7 H7
  -- r, with a
  refine (pr_set m 0 1 xa sa _ _ _ w8 R8.out.pr hsa).mono ?_
  rintro e w9 ⟨⟨ls9, k9, ao9, n9, S9, rfl, hs9, hp9⟩, hb9⟩
  have e1 : setR m 0 1 fb xa sa = (0, 0, 1, bsOf (upd fb (xa - 1).toNat sa.toNat) (sz m)) := by unfold setR; rw [if_pos hA]
  rw [e1] at hp9 ⊢
  clear e1
  obtain ⟨rfl, rfl, rfl, h9⟩ := pr_of hp9 hs9 hm hx1 (by decide) (set_ok R8.out.pr.hf hA.1 hA.2)
  have hne : (xa - 1).toNat ≠ (xb - 1).toNat := by
    have h1 := okx_bd hA.1; have h2 := okx_bd hB.1
    rw [beq_eq_false_iff_ne] at hxx
    omega
  have hba : upd fb (xa - 1).toNat sa.toNat = fab := by
    rw [hfab, hfa, hfb, upd_upd _ hne]
  rw [hba] at h9
  have HGA : Hid (getR m fab xa = (sa, 0)) := by
    unfold Hid getR; rw [if_pos hA.1, hfab, upd_other _ hne, hfa, upd_same]
    congr 1; omega
  have HGB : Hid (getR m fab xb = (sb, 0)) := by
    unfold Hid getR; rw [if_pos hB.1, hfab, upd_same]
    congr 1; omega
  have H9 := Lib.hid h9
  have T9 := Lib.hid (T8.out.below hb9)
  have M9 := Lib.hid (M8.out.below hb9)
  have R9 := Lib.hid (R8.out.below hb9)
  have hip := R9.out.pk.is
  clear h9 hp9 hs9 hb9 T8 M8 R8 hba hfa hfb hfab hne hA hB hsa hsb hf0 hxx
  have HNQ2 : Hid (bq ≠ br) := fun e => HNQ.out e.symm
  go_wp2_with (refine wpList_st_page' rfl _ _ rfl br rfl _ _ _ _ _ _ rfl rfl hip (fun w10 hp10 hg10 => ?_); have T10 := Lib.hid (T9.out.st R9.out.pk hg10 HN5.out); have M10 := Lib.hid (M9.out.st R9.out.pk hg10 HNQ2.out); have R10 : Hid (LV m w10 br 0 1 fab ao9 S9) := (by exact ⟨hp10, H9.out.st R9.out.pk hg10⟩); (obtain ⟨c0, c1, c2, c3, c4, c5⟩ := M10.out.pk.cell); (obtain ⟨q0, q1, q2⟩ := T10.out.a.cell); (obtain ⟨r0, r1, r2⟩ := T10.out.b.cell); clear hg10 hp10)
  clear q0 q1 q2 r0 r1 r2 c0 c1 c2 c3 c4 c5 hip T9 M9 R9 H9
  refine (pr_get m 0 1 xa _ _ _ w10 M10.out.pr).mono ?_
  rintro e w11 ⟨rfl, hb11⟩
  rw [HGA.out]
  have T11 := Lib.hid (T10.out.below hb11)
  have M11 := Lib.hid (M10.out.below hb11)
  have R11 := Lib.hid (R10.out.below hb11)
  clear hb11 T10 M10 R10
  obtain ⟨c0, c1, c2, c3, c4, c5⟩ := M11.out.pk.cell
  obtain ⟨q0, q1, q2⟩ := T11.out.a.cell
  obtain ⟨r0, r1, r2⟩ := T11.out.b.cell
  go_wp2_with fail
  clear q0 q1 q2 r0 r1 r2 c0 c1 c2 c3 c4 c5
  refine (pr_get m 0 1 xb _ _ _ w11 M11.out.pr).mono ?_
  rintro e w12 ⟨rfl, hb12⟩
  rw [HGB.out]
  have T12 := Lib.hid (T11.out.below hb12)
  have M12 := Lib.hid (M11.out.below hb12)
  have R12 := Lib.hid (R11.out.below hb12)
  clear hb12 T11 M11 R11
  obtain ⟨c0, c1, c2, c3, c4, c5⟩ := M12.out.pk.cell
  obtain ⟨d0, d1, d2, d3, d4, d5⟩ := R12.out.pk.cell
  go_wp2_with fail
  clear c0 c1 c2 c3 c4 c5 d0 d1 d2 d3 d4 d5
  refine (same_c 0 ao7 ao9 S7 S9 w12 M12.out.pr.it R12.out.pr.it (fun i hi => ?_)).mono ?_
  · match i, hi with
    | 0, _ => rw [M12.out.pr.s0, R12.out.pr.s0]
    | 1, _ => rw [M12.out.pr.s1, R12.out.pr.s1]
  rintro e w13 ⟨rfl, hb13⟩
  have T13 := Lib.hid (T12.out.below hb13)
  clear hb13 T12 M12 R12
  obtain ⟨q0, q1, q2⟩ := T13.out.a.cell
  obtain ⟨r0, r1, r2⟩ := T13.out.b.cell
  have hsaa : (sa == sa) = true := by simp
  have hsbb : (sb == sb) = true := by simp
  go_wp2_with fail
  refine (awake_k _).mono ?_
  rintro e w14 ⟨rfl, hb14⟩
  have T14 := Lib.hid (T13.out.below hb14)
  clear hb14
  go_wp2_with fail
  go_ret
  exact ⟨rfl, T14.out.bel⟩
end Go.Proofs.Ytpmhcpphbilokaa
