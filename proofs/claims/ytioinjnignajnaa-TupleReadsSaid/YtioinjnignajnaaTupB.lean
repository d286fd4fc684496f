/- Versions' bytes: the reference's; dead slots. -/
import Derived.Test.YtioinjnignajnaaTupA
namespace Go.Proofs.Ytioinjnignajnaa
open Go.RowKit
set_option linter.unusedSimpArgs false
attribute [local irreducible] wpQuiet

/-- While the reference lays a version. -/
structure EncR (W wx : World) (bt : Nat) (x y : Int) (k v : ByteArray) : Prop where
  c0 : wx.cell? ⟨bt, 0, none⟩ = some (.int .i64 x)
  c1 : wx.cell? ⟨bt, 1, none⟩ = some (.int .i64 y)
  c3 : wx.cell? ⟨bt, 3, none⟩ = some (.string k)
  c4 : wx.cell? ⟨bt, 4, none⟩ = some (.string v)
  bel : Below W.heap.size W wx
theorem EncR.below {W wx w' : World} {bt : Nat} {x y : Int} {k v : ByteArray} (h : EncR W wx bt x y k v) (hb : Below wx.heap.size wx w') : EncR W w' bt x y k v :=
  ⟨bel_at hb h.c0, bel_at hb h.c1, bel_at hb h.c3, bel_at hb h.c4, h.bel.trans (hb.mono h.bel.size)⟩

set_option maxRecDepth 100000 in
set_option maxHeartbeats 2000000 in
theorem renc_no (x y : Int) (f : Bool) (k v : ByteArray) (w : World) (h : ¬ encok x y k v = true) :
    Calls Try.prog 10 #[.agg #[.int .i64 x, .int .i64 y, .bool f, .string k, .string v]] w fun e w' => e = .returned (.tuple #[.string ⟨#[]⟩, .int .i64 110]) ∧ Below w.heap.size w w' := by
  have h' := Lib.hid (encok_no h)
  clear h
  have HB := Lib.hid ((Below.refl _ w).alloc (Nat.le_refl _) (.cells #[.int .i64 x, .int .i64 y, .bool f, .string k, .string v] 23))
  go_enter Try.func10, Try.ntmps10
  go_wp2_with fail
  · refine (right_c k _).mono ?_
    rintro e w1 ⟨rfl, rfl⟩
    cases hk : kok k
    · go_wp2_with fail
      go_ret2
      exact ⟨rfl, HB.out⟩
    · have hv : 64 < v.size := by have h1 := h'.out; have h2 := kok_yes hk; omega
      go_wp2_with fail
      go_ret2
      exact ⟨rfl, HB.out⟩
  all_goals (go_ret2; exact ⟨rfl, HB.out⟩)

set_option maxRecDepth 100000 in
set_option maxHeartbeats 4000000 in
theorem renc_yes (x y : Int) (f : Bool) (k v : ByteArray) (w : World) (h : encok x y k v = true) :
    Calls Try.prog 10 #[.agg #[.int .i64 x, .int .i64 y, .bool f, .string k, .string v]] w fun e w' => e = .returned (.tuple #[.string ⟨(encL x y f k v).toArray⟩, .int .i64 0]) ∧ Below w.heap.size w w' := by
  obtain ⟨x1, x2, y1, y2, k1, k2, v1⟩ := encok_yes h
  have hk : Hid (kok k = true) := by unfold Hid kok; simp; omega
  obtain ⟨X, rfl⟩ := Int.eq_ofNat_of_zero_le (show 0 ≤ x by omega)
  obtain ⟨Y, rfl⟩ := Int.eq_ofNat_of_zero_le y1
  clear h
  have HE : Hid (encL (X : Int) (Y : Int) f k v = (if f then 3 else 1) :: (bigL X 2 ++ (bigL Y 2 ++ (txl k ++ txl v)))) := rfl
  have HB := Lib.hid ((Below.refl _ w).alloc (Nat.le_refl _) (.cells #[.int .i64 (X : Int), .int .i64 (Y : Int), .bool f, .string k, .string v] 23))
  obtain ⟨wb, hwb⟩ : ∃ wb, wb = w.alloc (.cells #[.int .i64 (X : Int), .int .i64 (Y : Int), .bool f, .string k, .string v] 23) := ⟨_, rfl⟩
  have HWB := Lib.hid hwb
  rw [← hwb] at HB
  obtain ⟨bt, hbt⟩ : ∃ bt, bt = w.heap.size := ⟨_, rfl⟩
  have HBT := Lib.hid hbt
  have hc0 : wb.cell? ⟨bt, 0, none⟩ = some (.int .i64 X) := by rw [hwb, hbt]; simp [go_sem]
  have hc1 : wb.cell? ⟨bt, 1, none⟩ = some (.int .i64 Y) := by rw [hwb, hbt]; simp [go_sem]
  have hc2 : wb.cell? ⟨bt, 2, none⟩ = some (.bool f) := by rw [hwb, hbt]; simp [go_sem]
  have hc3 : wb.cell? ⟨bt, 3, none⟩ = some (.string k) := by rw [hwb, hbt]; simp [go_sem]
  have hc4 : wb.cell? ⟨bt, 4, none⟩ = some (.string v) := by rw [hwb, hbt]; simp [go_sem]
  have hlt : bt < wb.heap.size := World.block_lt_of_cell? wb _ hc0
  clear hwb hbt
  go_enter Try.func10, Try.ntmps10
  go_wp2_with fail
  refine (right_c k _).mono ?_
  rintro e w1 ⟨rfl, rfl⟩
  rw [hk.out]
  rw [← HWB.out, ← HBT.out]
  cases f
  · skip
    have H4 : Hid (EncR w wb bt X Y k v) := ⟨hc0, hc1, hc3, hc4, HB.out⟩
    have hkl := txl_len (s := k) (by omega)
    have hvl := txl_len (s := v) (by omega)
    have CB2 := Lib.hid (fun w' => rbig_yes X 2 w' (by omega) (by decide) (by decide))
    have CB3 := Lib.hid (fun w' => rbig_yes Y 2 w' (by omega) (by decide) (by decide))
    have CT1 := Lib.hid (fun w' => rtext_c k w' (by omega))
    have CT2 := Lib.hid (fun w' => rtext_c v w' (by omega))
    have hB2 := bigL_len X 2
    have hB3 := bigL_len Y 2
    generalize bigL X 2 = B2 at CB2 hB2 HE
    generalize bigL Y 2 = B3 at CB3 hB3 HE
    generalize txl k = T1 at CT1 hkl HE
    generalize txl v = T2 at CT2 hvl HE
    have hl5 : ¬ (9223372036854775807 < 5 + T1.length) := by omega
    have hl6 : ¬ (9223372036854775807 < 5 + T1.length + T2.length) := by omega
    go_wp2_with fail
    clear hc0 hc1 hc2 hc3 hc4 HB HWB HBT hlt
    refine wp_region_q (fun wx => EncR w wx bt X Y k v) (by kernel_rfl) (by kernel_rfl) (H4.out.below (by exact (Below.refl _ _).drew)) ?_
    iterate 3 (refine q_take (v := ?_) (by kernel_rfl) (by intro w' hC; (try dsimp only at hC); have e0 := hC.c0; have e1 := hC.c1; have e3 := hC.c3; have e4 := hC.c4; go_simp; try (with_reducible rfl)) ?_; try simp only [Act.put, List.setIfInBounds_toArray, List.set_cons_zero, List.set_cons_succ])
    refine q_call (v := .string ⟨B2.toArray⟩) (f := ?_) (args := ?_) (by kernel_rfl) (by intro w' hC; (try dsimp only at hC); go_simp; first | (constructor <;> with_reducible rfl) | (with_reducible rfl)) (by intro w' hC; (try dsimp only at hC); exact (CB2.out w').mono (fun e wx ⟨h, hh⟩ => ⟨h, hC.below hh⟩)) ?_
    try simp only [Act.put, List.setIfInBounds_toArray, List.set_cons_zero, List.set_cons_succ]
    iterate 3 (refine q_take (v := ?_) (by kernel_rfl) (by intro w' hC; (try dsimp only at hC); have e0 := hC.c0; have e1 := hC.c1; have e3 := hC.c3; have e4 := hC.c4; go_simp; try (with_reducible rfl)) ?_; try simp only [Act.put, List.setIfInBounds_toArray, List.set_cons_zero, List.set_cons_succ])
    refine q_call (v := .string ⟨B3.toArray⟩) (f := ?_) (args := ?_) (by kernel_rfl) (by intro w' hC; (try dsimp only at hC); go_simp; first | (constructor <;> with_reducible rfl) | (with_reducible rfl)) (by intro w' hC; (try dsimp only at hC); exact (CB3.out w').mono (fun e wx ⟨h, hh⟩ => ⟨h, hC.below hh⟩)) ?_
    try simp only [Act.put, List.setIfInBounds_toArray, List.set_cons_zero, List.set_cons_succ]
    iterate 3 (refine q_take (v := ?_) (by kernel_rfl) (by intro w' hC; (try dsimp only at hC); have e0 := hC.c0; have e1 := hC.c1; have e3 := hC.c3; have e4 := hC.c4; go_simp; try (with_reducible rfl)) ?_; try simp only [Act.put, List.setIfInBounds_toArray, List.set_cons_zero, List.set_cons_succ])
    refine q_call (v := .string ⟨T1.toArray⟩) (f := ?_) (args := ?_) (by kernel_rfl) (by intro w' hC; (try dsimp only at hC); go_simp; first | (constructor <;> with_reducible rfl) | (with_reducible rfl)) (by intro w' hC; (try dsimp only at hC); exact (CT1.out w').mono (fun e wx ⟨h, hh⟩ => ⟨h, hC.below hh⟩)) ?_
    try simp only [Act.put, List.setIfInBounds_toArray, List.set_cons_zero, List.set_cons_succ]
    iterate 3 (refine q_take (v := ?_) (by kernel_rfl) (by intro w' hC; (try dsimp only at hC); have e0 := hC.c0; have e1 := hC.c1; have e3 := hC.c3; have e4 := hC.c4; go_simp; try (with_reducible rfl)) ?_; try simp only [Act.put, List.setIfInBounds_toArray, List.set_cons_zero, List.set_cons_succ])
    refine q_call (v := .string ⟨T2.toArray⟩) (f := ?_) (args := ?_) (by kernel_rfl) (by intro w' hC; (try dsimp only at hC); go_simp; first | (constructor <;> with_reducible rfl) | (with_reducible rfl)) (by intro w' hC; (try dsimp only at hC); exact (CT2.out w').mono (fun e wx ⟨h, hh⟩ => ⟨h, hC.below hh⟩)) ?_
    try simp only [Act.put, List.setIfInBounds_toArray, List.set_cons_zero, List.set_cons_succ]
    iterate 3 (refine q_take (v := ?_) (by kernel_rfl) (by intro w' hC; (try dsimp only at hC); have e0 := hC.c0; have e1 := hC.c1; have e3 := hC.c3; have e4 := hC.c4; go_simp; try (with_reducible rfl)) ?_; try simp only [Act.put, List.setIfInBounds_toArray, List.set_cons_zero, List.set_cons_succ])
    refine q_done ?_
    intro w9 hC9
    have H9 := Lib.hid hC9.bel
    clear hC9
    go_wp2_with fail
    go_ret2
    rw [HE.out]
    exact ⟨by
      show Ending.returned (.tuple #[.string (((((⟨#[1]⟩ : ByteArray) ++ ⟨B2.toArray⟩) ++ ⟨B3.toArray⟩) ++ ⟨T1.toArray⟩) ++ ⟨T2.toArray⟩), .int .i64 0]) = _
      rw [show (⟨#[1]⟩ : ByteArray) = ⟨([1] : List UInt8).toArray⟩ from rfl, bs_app, bs_app, bs_app, bs_app, List.append_assoc, List.append_assoc, List.append_assoc]
      rfl, H9.out⟩
  · skip
    have H4 : Hid (EncR w wb bt X Y k v) := ⟨hc0, hc1, hc3, hc4, HB.out⟩
    have hkl := txl_len (s := k) (by omega)
    have hvl := txl_len (s := v) (by omega)
    have CB2 := Lib.hid (fun w' => rbig_yes X 2 w' (by omega) (by decide) (by decide))
    have CB3 := Lib.hid (fun w' => rbig_yes Y 2 w' (by omega) (by decide) (by decide))
    have CT1 := Lib.hid (fun w' => rtext_c k w' (by omega))
    have CT2 := Lib.hid (fun w' => rtext_c v w' (by omega))
    have hB2 := bigL_len X 2
    have hB3 := bigL_len Y 2
    generalize bigL X 2 = B2 at CB2 hB2 HE
    generalize bigL Y 2 = B3 at CB3 hB3 HE
    generalize txl k = T1 at CT1 hkl HE
    generalize txl v = T2 at CT2 hvl HE
    have hl5 : ¬ (9223372036854775807 < 5 + T1.length) := by omega
    have hl6 : ¬ (9223372036854775807 < 5 + T1.length + T2.length) := by omega
    go_wp2_with fail
    clear hc0 hc1 hc2 hc3 hc4 HB HWB HBT hlt
    refine wp_region_q (fun wx => EncR w wx bt X Y k v) (by kernel_rfl) (by kernel_rfl) (H4.out.below (by exact (Below.refl _ _).drew)) ?_
    iterate 3 (refine q_take (v := ?_) (by kernel_rfl) (by intro w' hC; (try dsimp only at hC); have e0 := hC.c0; have e1 := hC.c1; have e3 := hC.c3; have e4 := hC.c4; go_simp; try (with_reducible rfl)) ?_; try simp only [Act.put, List.setIfInBounds_toArray, List.set_cons_zero, List.set_cons_succ])
    refine q_call (v := .string ⟨B2.toArray⟩) (f := ?_) (args := ?_) (by kernel_rfl) (by intro w' hC; (try dsimp only at hC); go_simp; first | (constructor <;> with_reducible rfl) | (with_reducible rfl)) (by intro w' hC; (try dsimp only at hC); exact (CB2.out w').mono (fun e wx ⟨h, hh⟩ => ⟨h, hC.below hh⟩)) ?_
    try simp only [Act.put, List.setIfInBounds_toArray, List.set_cons_zero, List.set_cons_succ]
    iterate 3 (refine q_take (v := ?_) (by kernel_rfl) (by intro w' hC; (try dsimp only at hC); have e0 := hC.c0; have e1 := hC.c1; have e3 := hC.c3; have e4 := hC.c4; go_simp; try (with_reducible rfl)) ?_; try simp only [Act.put, List.setIfInBounds_toArray, List.set_cons_zero, List.set_cons_succ])
    refine q_call (v := .string ⟨B3.toArray⟩) (f := ?_) (args := ?_) (by kernel_rfl) (by intro w' hC; (try dsimp only at hC); go_simp; first | (constructor <;> with_reducible rfl) | (with_reducible rfl)) (by intro w' hC; (try dsimp only at hC); exact (CB3.out w').mono (fun e wx ⟨h, hh⟩ => ⟨h, hC.below hh⟩)) ?_
    try simp only [Act.put, List.setIfInBounds_toArray, List.set_cons_zero, List.set_cons_succ]
    iterate 3 (refine q_take (v := ?_) (by kernel_rfl) (by intro w' hC; (try dsimp only at hC); have e0 := hC.c0; have e1 := hC.c1; have e3 := hC.c3; have e4 := hC.c4; go_simp; try (with_reducible rfl)) ?_; try simp only [Act.put, List.setIfInBounds_toArray, List.set_cons_zero, List.set_cons_succ])
    refine q_call (v := .string ⟨T1.toArray⟩) (f := ?_) (args := ?_) (by kernel_rfl) (by intro w' hC; (try dsimp only at hC); go_simp; first | (constructor <;> with_reducible rfl) | (with_reducible rfl)) (by intro w' hC; (try dsimp only at hC); exact (CT1.out w').mono (fun e wx ⟨h, hh⟩ => ⟨h, hC.below hh⟩)) ?_
    try simp only [Act.put, List.setIfInBounds_toArray, List.set_cons_zero, List.set_cons_succ]
    iterate 3 (refine q_take (v := ?_) (by kernel_rfl) (by intro w' hC; (try dsimp only at hC); have e0 := hC.c0; have e1 := hC.c1; have e3 := hC.c3; have e4 := hC.c4; go_simp; try (with_reducible rfl)) ?_; try simp only [Act.put, List.setIfInBounds_toArray, List.set_cons_zero, List.set_cons_succ])
    refine q_call (v := .string ⟨T2.toArray⟩) (f := ?_) (args := ?_) (by kernel_rfl) (by intro w' hC; (try dsimp only at hC); go_simp; first | (constructor <;> with_reducible rfl) | (with_reducible rfl)) (by intro w' hC; (try dsimp only at hC); exact (CT2.out w').mono (fun e wx ⟨h, hh⟩ => ⟨h, hC.below hh⟩)) ?_
    try simp only [Act.put, List.setIfInBounds_toArray, List.set_cons_zero, List.set_cons_succ]
    iterate 3 (refine q_take (v := ?_) (by kernel_rfl) (by intro w' hC; (try dsimp only at hC); have e0 := hC.c0; have e1 := hC.c1; have e3 := hC.c3; have e4 := hC.c4; go_simp; try (with_reducible rfl)) ?_; try simp only [Act.put, List.setIfInBounds_toArray, List.set_cons_zero, List.set_cons_succ])
    refine q_done ?_
    intro w9 hC9
    have H9 := Lib.hid hC9.bel
    clear hC9
    go_wp2_with fail
    go_ret2
    rw [HE.out]
    exact ⟨by
      show Ending.returned (.tuple #[.string (((((⟨#[3]⟩ : ByteArray) ++ ⟨B2.toArray⟩) ++ ⟨B3.toArray⟩) ++ ⟨T1.toArray⟩) ++ ⟨T2.toArray⟩), .int .i64 0]) = _
      rw [show (⟨#[3]⟩ : ByteArray) = ⟨([3] : List UInt8).toArray⟩ from rfl, bs_app, bs_app, bs_app, bs_app, List.append_assoc, List.append_assoc, List.append_assoc]
      rfl, H9.out⟩

/-- A dead slot's bytes. -/
def deadL (k : ByteArray) : List UInt8 := 4 :: txl k
theorem deadL_eq (k : ByteArray) : [4] ++ txl k = deadL k := by unfold deadL; generalize txl k = T; rfl
theorem sev4 : sev 4 = [4] := by rw [sev_low (by decide)]; rfl

theorem num1L_c (bw B : Nat) (v : Value) (l L : List UInt8) (x : Int) (w0 w : World) (hL : sev x.toNat = L) (hw0 : WrV w0 bw B 5 v l) (hw : w = w0.alloc (.cells #[.int .i64 x] 3))
    (hx : x ≤ 9223372036854775807) (hlen : l.length + 9 ≤ 140737488355328) :
    Calls Try.prog 31 #[.pointer (some ⟨bw, 0, none⟩), .slice (some ⟨w0.heap.size, 0, none⟩) 1 1] w fun e w' => e = .returned (.tuple #[]) ∧ ∃ v', WS w0 v bw B 5 w' v' (l ++ L) := by
  subst hL; exact num1_c bw B v l x w0 w hw0 hw hx hlen
theorem sev4i : sev (Int.toNat 4) = [4] := by rw [show Int.toNat 4 = 4 from rfl]; exact sev4

theorem dead_no (k : ByteArray) (w : World) (h : kok k = false) :
    Calls Try.prog 11 #[.string k] w fun e w' => e = .returned (.tuple #[.string ⟨#[]⟩, .int .i64 110]) ∧ Below w.heap.size w w' := by
  have HK := Lib.hid h
  clear h
  go_enter Try.func11, Try.ntmps11
  go_wp2_with fail
  refine (fits_c k _).mono ?_
  rintro e w1 ⟨rfl, rfl⟩
  rw [HK.out]
  go_wp2_with fail
  go_ret2
  exact ⟨rfl, Below.refl _ _⟩
theorem rdead_no (k : ByteArray) (w : World) (h : kok k = false) :
    Calls Try.prog 12 #[.string k] w fun e w' => e = .returned (.tuple #[.string ⟨#[]⟩, .int .i64 110]) ∧ Below w.heap.size w w' := by
  have HK := Lib.hid h
  clear h
  go_enter Try.func12, Try.ntmps12
  go_wp2_with fail
  refine (right_c k _).mono ?_
  rintro e w1 ⟨rfl, rfl⟩
  rw [HK.out]
  go_wp2_with fail
  go_ret2
  exact ⟨rfl, Below.refl _ _⟩
theorem dead_yes (k : ByteArray) (w : World) (h : kok k = true) :
    Calls Try.prog 11 #[.string k] w fun e w' => e = .returned (.tuple #[.string ⟨(deadL k).toArray⟩, .int .i64 0]) ∧ Below w.heap.size w w' := by
  have HK := Lib.hid h
  have hk := kok_yes h
  clear h
  go_enter Try.func11, Try.ntmps11
  go_wp2_with fail
  refine (fits_c k _).mono ?_
  rintro e w1 ⟨rfl, rfl⟩
  rw [HK.out]
  go_wp2_with fail
  refine (new_c _).mono ?_
  rintro e w2 ⟨rfl, hw2, hb2, hz2⟩
  have HW2 := Lib.hid hw2
  have HB2 := Lib.hid hb2
  clear hw2 hb2 hz2
  go_wp2_with fail
  refine (num1L_c w.heap.size w2.heap.size (.slice none 0 0) [] [4] 4 w2 _ sev4i HW2.out rfl (by decide) (by simp)).mono ?_
  rintro e w3 ⟨rfl, v3, hs3⟩
  have hs3' : WS w2 (.slice none 0 0) w.heap.size w2.heap.size 5 w3 v3 [4] := hs3
  have HS3 := Lib.hid hs3'
  clear hs3 hs3'
  go_wp2_with fail
  refine (text_c w.heap.size w2.heap.size v3 [4] k w3 HS3.out.wr (by omega) (by simp; omega)).mono ?_
  rintro e w4 ⟨rfl, v4, hs4⟩
  rw [deadL_eq] at hs4
  have HS4 := Lib.hid (HS3.out.trans hs4)
  clear hs4
  go_wp2_with fail
  refine (bytes_c w.heap.size w2.heap.size v4 _ _ HS4.out.wr).mono ?_
  rintro e w5 ⟨rfl, rfl⟩
  go_wp2_with fail
  go_ret2
  exact ⟨rfl, HB2.out.trans (HS4.out.touch.below HB2.out.size (Nat.le_refl _) (fun g hg => by cases hg))⟩
set_option maxHeartbeats 400000 in
theorem rdead_yes (k : ByteArray) (w : World) (h : kok k = true) :
    Calls Try.prog 12 #[.string k] w fun e w' => e = .returned (.tuple #[.string ⟨(deadL k).toArray⟩, .int .i64 0]) ∧ Below w.heap.size w w' := by
  have HK := Lib.hid h
  have hk := kok_yes h
  have hkl := txl_len (s := k) (by omega)
  clear h
  go_enter Try.func12, Try.ntmps12
  go_wp2_with fail
  refine (right_c k _).mono ?_
  rintro e w1 ⟨rfl, rfl⟩
  rw [HK.out]
  go_wp2_with fail
  refine (rtext_c k _ (by omega)).mono ?_
  rintro e w2 ⟨rfl, hb⟩
  have HB := Lib.hid hb
  clear hb
  have hl5 : ¬ (9223372036854775807 < 1 + (txl k).length) := by omega
  have HD : Hid (deadL k = [4] ++ txl k) := (deadL_eq k).symm
  generalize txl k = T at *
  go_wp2_with fail
  go_ret2
  rw [HD.out]
  exact ⟨by
    show Ending.returned (.tuple #[.string ((⟨#[4]⟩ : ByteArray) ++ ⟨T.toArray⟩), .int .i64 0]) = _
    rw [show (⟨#[4]⟩ : ByteArray) = ⟨([4] : List UInt8).toArray⟩ from rfl, bs_app], HB.out⟩
end Go.Proofs.Ytioinjnignajnaa
