/- Versions' bytes: what a version's bytes are; fits, right, Free. -/
import Derived.Test.YtkjnjccjkjachaaBitsR
import Derived.Test.YtkjnjccjkjachaaBitsL
import Derived.Test.YtkjnjccjkjachaaQuiet
namespace Go.Proofs.Ytkjnjccjkjachaa
open Go.RowKit
set_option linter.unusedSimpArgs false
set_option maxRecDepth 100000
attribute [local irreducible] wpQuiet

/-- May a version be laid? -/
def encok (x y : Int) (k v : ByteArray) : Bool := decide (1 ≤ x) && decide (x ≤ 1024) && decide (0 ≤ y) && decide (y ≤ 1024) && decide (0 < k.size) && decide (k.size ≤ 24) && decide (v.size ≤ 64)
theorem encok_yes {x y : Int} {k v : ByteArray} (h : encok x y k v = true) : 1 ≤ x ∧ x ≤ 1024 ∧ 0 ≤ y ∧ y ≤ 1024 ∧ 0 < k.size ∧ k.size ≤ 24 ∧ v.size ≤ 64 := by
  simp [encok] at h; omega
theorem encok_no {x y : Int} {k v : ByteArray} (h : ¬ encok x y k v = true) : ¬ (1 ≤ x ∧ x ≤ 1024 ∧ 0 ≤ y ∧ y ≤ 1024 ∧ 0 < k.size ∧ k.size ≤ 24 ∧ v.size ≤ 64) := by
  intro h'; apply h; simp [encok]; omega
/-- A version's bytes. -/
def encL (x y : Int) (f : Bool) (k v : ByteArray) : List UInt8 := (if f then 3 else 1) :: (bigL x.toNat 2 ++ (bigL y.toNat 2 ++ (txl k ++ txl v)))

/-- May a key be? -/
def kok (k : ByteArray) : Bool := decide (0 < k.size) && decide (k.size ≤ 24)
theorem kok_yes {k : ByteArray} (h : kok k = true) : 0 < k.size ∧ k.size ≤ 24 := by simp [kok] at h; exact h
theorem kok_no {k : ByteArray} (h : kok k = false) : ¬ (0 < k.size ∧ k.size ≤ 24) := by simp [kok] at h; omega
theorem fits_c (k : ByteArray) (w : World) : Calls Try.prog 30 #[.string k] w fun e w' => e = .returned (.bool (kok k)) ∧ w = w' := by
  by_cases h : 0 < k.size
  · by_cases h2 : k.size ≤ 24
    · have e : Hid (kok k = true) := by unfold Hid kok; simp [h, h2]
      go_enter Try.func30, Try.ntmps30
      go_wp2_with fail
      go_ret
      exact ⟨retB (by rw [e.out]; all_goals first | rfl | (simp; done) | (simp; omega)), rfl⟩
    · have e : Hid (kok k = false) := by unfold Hid kok; first | (simp [h]; done) | (simp; omega)
      go_enter Try.func30, Try.ntmps30
      go_wp2_with fail
      go_ret
      exact ⟨retB (by rw [e.out]; all_goals first | rfl | (simp; done) | (simp; omega)), rfl⟩
  · have e : Hid (kok k = false) := by unfold Hid kok; first | (simp [h]; done) | (simp; omega)
    go_enter Try.func30, Try.ntmps30
    go_wp2_with fail
    go_ret
    exact ⟨retB (by rw [e.out]; all_goals first | rfl | (simp; done) | (simp; omega)), rfl⟩
theorem free_c (w : World) : Calls Try.prog 35 #[] w fun e w' => e = .returned (.string ⟨#[]⟩) ∧ w = w' := by
  go_enter Try.func35, Try.ntmps35
  go_wp2_with fail
  go_ret
  exact ⟨rfl, rfl⟩

set_option maxRecDepth 100000 in
set_option maxHeartbeats 2000000 in
theorem enc_no (x y : Int) (f : Bool) (k v : ByteArray) (w : World) (h : ¬ encok x y k v = true) :
    Calls Try.prog 12 #[.agg #[.int .i64 x, .int .i64 y, .bool f, .string k, .string v]] w fun e w' => e = .returned (.tuple #[.string ⟨#[]⟩, .int .i64 110]) ∧ Below w.heap.size w w' := by
  have h' := Lib.hid (encok_no h)
  clear h
  have HB := Lib.hid ((Below.refl _ w).alloc (Nat.le_refl _) (.cells #[.int .i64 x, .int .i64 y, .bool f, .string k, .string v] 26))
  go_enter Try.func12, Try.ntmps12
  go_wp2_with fail
  · refine (fits_c k _).mono ?_
    rintro e w1 ⟨rfl, rfl⟩
    cases hk : kok k
    · go_wp2_with fail
      go_ret2
      exact ⟨rfl, HB.out⟩
    · have hv : 64 < v.size := by have h1 := h'.out; have h2 := kok_yes hk; omega
      go_wp2_with fail
      go_ret2
      exact ⟨rfl, HB.out⟩
  all_goals (go_ret2; exact ⟨rfl, HB.out⟩)

/-- While a version is being laid: its cells, the writer. -/
structure EncS (W wx : World) (bt bw B : Nat) (vv : Value) (l : List UInt8) (x y : Int) (k v : ByteArray) : Prop where
  c0 : wx.cell? ⟨bt, 0, none⟩ = some (.int .i64 x)
  c1 : wx.cell? ⟨bt, 1, none⟩ = some (.int .i64 y)
  c3 : wx.cell? ⟨bt, 3, none⟩ = some (.string k)
  c4 : wx.cell? ⟨bt, 4, none⟩ = some (.string v)
  wv : WrV wx bw B 5 vv l
  bel : Below W.heap.size W wx
  n1 : W.heap.size ≤ bw
  ne : bt < bw
theorem EncS.below {W wx w' : World} {bt bw B : Nat} {vv : Value} {l : List UInt8} {x y : Int} {k v : ByteArray} (h : EncS W wx bt bw B vv l x y k v) (hb : Below wx.heap.size wx w') : EncS W w' bt bw B vv l x y k v :=
  ⟨bel_at hb h.c0, bel_at hb h.c1, bel_at hb h.c3, bel_at hb h.c4, h.wv.below hb, h.bel.trans (hb.mono h.bel.size), h.n1, h.ne⟩
theorem EncS.lay {W wx w' : World} {bt bw B : Nat} {vv vv' : Value} {l l' : List UInt8} {x y : Int} {k v : ByteArray} (h : EncS W wx bt bw B vv l x y k v) (hs : WS wx vv bw B 5 w' vv' l') : EncS W w' bt bw B vv' l' x y k v := by
  have h1 := h.wv.lt
  have h2 := h.ne
  have h3 := h.n1
  have e1 : bt ≠ bw := by omega
  have e2 : some bt ≠ vv.ownBlock := fun e => by have := h.wv.ownGe bt e.symm; omega
  exact ⟨hs.at h.c0 e1 e2, hs.at h.c1 e1 e2, hs.at h.c3 e1 e2, hs.at h.c4 e1 e2, hs.wr, h.bel.trans (hs.touch.below h.bel.size h.n1 (fun g hg => by have := h.wv.ownGe g hg; omega)), h.n1, h.ne⟩

theorem bigL_len (n k : Nat) : (bigL n k).length = k := by simp [bigL]
theorem bs_app (l m : List UInt8) : (⟨l.toArray⟩ : ByteArray) ++ ⟨m.toArray⟩ = ⟨(l ++ m).toArray⟩ := by rw [bs_append, List.toList_toArray]

set_option maxRecDepth 100000 in
set_option maxHeartbeats 4000000 in
theorem enc_yes (x y : Int) (f : Bool) (k v : ByteArray) (w : World) (h : encok x y k v = true) :
    Calls Try.prog 12 #[.agg #[.int .i64 x, .int .i64 y, .bool f, .string k, .string v]] w fun e w' => e = .returned (.tuple #[.string ⟨(encL x y f k v).toArray⟩, .int .i64 0]) ∧ Below w.heap.size w w' := by
  obtain ⟨x1, x2, y1, y2, k1, k2, v1⟩ := encok_yes h
  have hk : Hid (kok k = true) := by unfold Hid kok; simp; omega
  obtain ⟨X, rfl⟩ := Int.eq_ofNat_of_zero_le (show 0 ≤ x by omega)
  obtain ⟨Y, rfl⟩ := Int.eq_ofNat_of_zero_le y1
  clear h
  obtain ⟨F, hF⟩ : ∃ F : Nat, F = if f then 3 else 1 := ⟨_, rfl⟩
  have HE : Hid (encL (X : Int) (Y : Int) f k v = bigL F 1 ++ (bigL X 2 ++ (bigL Y 2 ++ (txl k ++ txl v)))) := by
    unfold Hid encL; rw [hF]; cases f <;> rfl
  have hF3 : F ≤ 3 := by rw [hF]; cases f <;> decide
  have hF1 : 1 ≤ F := by rw [hF]; cases f <;> decide
  have hFb : Hid ((bif f then (3 : Int) else 1) = (F : Int)) := by unfold Hid; rw [hF]; cases f <;> rfl
  clear hF
  have HB := Lib.hid ((Below.refl _ w).alloc (Nat.le_refl _) (.cells #[.int .i64 (X : Int), .int .i64 (Y : Int), .bool f, .string k, .string v] 26))
  obtain ⟨wb, hwb⟩ : ∃ wb, wb = w.alloc (.cells #[.int .i64 (X : Int), .int .i64 (Y : Int), .bool f, .string k, .string v] 26) := ⟨_, rfl⟩
  have HWB := Lib.hid hwb
  rw [← hwb] at HB
  obtain ⟨bt, hbt⟩ : ∃ bt, bt = w.heap.size := ⟨_, rfl⟩
  have HBT := Lib.hid hbt
  have hc0 : wb.cell? ⟨bt, 0, none⟩ = some (.int .i64 X) := by rw [hwb, hbt]; simp [go_sem]
  have hc1 : wb.cell? ⟨bt, 1, none⟩ = some (.int .i64 Y) := by rw [hwb, hbt]; simp [go_sem]
  have hc2 : wb.cell? ⟨bt, 2, none⟩ = some (.bool f) := by rw [hwb, hbt]; simp [go_sem]
  have hc3 : wb.cell? ⟨bt, 3, none⟩ = some (.string k) := by rw [hwb, hbt]; simp [go_sem]
  have hc4 : wb.cell? ⟨bt, 4, none⟩ = some (.string v) := by rw [hwb, hbt]; simp [go_sem]
  have hlt : bt < wb.heap.size := World.block_lt_of_cell? wb _ hc0
  clear hwb hbt
  go_enter Try.func12, Try.ntmps12
  go_wp2_with fail
  refine (fits_c k _).mono ?_
  rintro e w1 ⟨rfl, rfl⟩
  rw [hk.out]
  rw [← HWB.out, ← HBT.out]
  cases f
  · skip
    go_wp2_with fail
    refine (new_c _).mono ?_
    rintro e w2 ⟨rfl, hw2, hb2, hz2⟩
    have HS : Hid (EncS w w2 bt wb.heap.size w2.heap.size (.slice none 0 0) [] X Y k v) := ⟨bel_at hb2 hc0, bel_at hb2 hc1, bel_at hb2 hc3, bel_at hb2 hc4, hw2, HB.out.trans (hb2.mono HB.out.size), HB.out.size, hlt⟩
    clear hw2 hb2 hz2 hc0 hc1 hc2 hc3 hc4
    obtain ⟨bw, hbw⟩ : ∃ bw, bw = wb.heap.size := ⟨_, rfl⟩
    obtain ⟨B, hB⟩ : ∃ B, B = w2.heap.size := ⟨_, rfl⟩
    rw [← hbw]
    have HS1 : Hid (EncS w w2 bt bw B (.slice none 0 0) [] X Y k v) := by rw [hbw, hB]; exact HS
    clear HS hbw hB
    have q3 := HS1.out.c3
    go_wp2_with fail
    refine (text_c bw B _ _ k _ HS1.out.wv (by omega) (by simp; omega)).mono ?_
    rintro e w3 ⟨rfl, v1, hs3⟩
    have H3 := Lib.hid (HS1.out.lay hs3)
    clear hs3 q3
    have q4 := H3.out.c4
    have hkl := txl_len (s := k) (by omega)
    have hvl := txl_len (s := v) (by omega)
    go_wp2_with fail
    refine (text_c bw B _ _ v _ H3.out.wv (by omega) (by simp; omega)).mono ?_
    rintro e w4 ⟨rfl, v2, hs4⟩
    have H4 : Hid (EncS w w4 bt bw B v2 (txl k ++ txl v) X Y k v) := H3.out.lay hs4
    clear hs4 q4 H3 HS1 HB HWB HBT hlt
    have CB1 := Lib.hid (fun w' => big_yes 1 1 w' (by omega) (by decide) (by decide))
    have CB2 := Lib.hid (fun w' => big_yes X 2 w' (by omega) (by decide) (by decide))
    have CB3 := Lib.hid (fun w' => big_yes Y 2 w' (by omega) (by decide) (by decide))
    have hB1 := bigL_len 1 1
    have hB2 := bigL_len X 2
    have hB3 := bigL_len Y 2
    have hF0 : F = 1 := by have := hFb.out; simp at this; omega
    subst hF0
    generalize bigL 1 1 = B1 at CB1 hB1 HE
    generalize bigL X 2 = B2 at CB2 hB2 HE
    generalize bigL Y 2 = B3 at CB3 hB3 HE
    obtain ⟨l4, hl4⟩ : ∃ l4, l4 = txl k ++ txl v := ⟨_, rfl⟩
    have HL4 := Lib.hid hl4.symm
    have hl5 : l4.length ≤ 200 := by rw [hl4, List.length_append]; omega
    rw [← hl4] at HE
    clear hl4
    have hl6 : ¬ (9223372036854775807 < 5 + l4.length) := by omega
    go_wp2_with fail
    refine wp_region_q (fun wx => EncS w wx bt bw B v2 (txl k ++ txl v) X Y k v) (by kernel_rfl) (by kernel_rfl) (H4.out.below (by exact (Below.refl _ _).drew)) ?_
    iterate 1 (refine q_take (v := ?_) (by kernel_rfl) (by intro w' hC; (try dsimp only at hC); have e0 := hC.c0; have e1 := hC.c1; go_simp; try (with_reducible rfl)) ?_; try simp only [Act.put, List.setIfInBounds_toArray, List.set_cons_zero, List.set_cons_succ])
    refine q_call (v := .string ⟨B1.toArray⟩) (f := ?_) (args := ?_) (by kernel_rfl) (by intro w' hC; (try dsimp only at hC); go_simp; first | (constructor <;> with_reducible rfl) | (with_reducible rfl)) (by intro w' hC; (try dsimp only at hC); exact (CB1.out w').mono (fun e wx ⟨h, hh⟩ => ⟨h, hC.below hh⟩)) ?_
    try simp only [Act.put, List.setIfInBounds_toArray, List.set_cons_zero, List.set_cons_succ]
    iterate 2 (refine q_take (v := ?_) (by kernel_rfl) (by intro w' hC; (try dsimp only at hC); have e0 := hC.c0; have e1 := hC.c1; go_simp; try (with_reducible rfl)) ?_; try simp only [Act.put, List.setIfInBounds_toArray, List.set_cons_zero, List.set_cons_succ])
    refine q_call (v := .string ⟨B2.toArray⟩) (f := ?_) (args := ?_) (by kernel_rfl) (by intro w' hC; (try dsimp only at hC); go_simp; first | (constructor <;> with_reducible rfl) | (with_reducible rfl)) (by intro w' hC; (try dsimp only at hC); exact (CB2.out w').mono (fun e wx ⟨h, hh⟩ => ⟨h, hC.below hh⟩)) ?_
    try simp only [Act.put, List.setIfInBounds_toArray, List.set_cons_zero, List.set_cons_succ]
    iterate 3 (refine q_take (v := ?_) (by kernel_rfl) (by intro w' hC; (try dsimp only at hC); have e0 := hC.c0; have e1 := hC.c1; go_simp; try (with_reducible rfl)) ?_; try simp only [Act.put, List.setIfInBounds_toArray, List.set_cons_zero, List.set_cons_succ])
    refine q_call (v := .string ⟨B3.toArray⟩) (f := ?_) (args := ?_) (by kernel_rfl) (by intro w' hC; (try dsimp only at hC); go_simp; first | (constructor <;> with_reducible rfl) | (with_reducible rfl)) (by intro w' hC; (try dsimp only at hC); exact (CB3.out w').mono (fun e wx ⟨h, hh⟩ => ⟨h, hC.below hh⟩)) ?_
    try simp only [Act.put, List.setIfInBounds_toArray, List.set_cons_zero, List.set_cons_succ]
    iterate 2 (refine q_take (v := ?_) (by kernel_rfl) (by intro w' hC; (try dsimp only at hC); have e0 := hC.c0; have e1 := hC.c1; go_simp; try (with_reducible rfl)) ?_; try simp only [Act.put, List.setIfInBounds_toArray, List.set_cons_zero, List.set_cons_succ])
    refine q_call (v := .string ⟨l4.toArray⟩) (f := ?_) (args := ?_) (by kernel_rfl) (by intro w' hC; (try dsimp only at hC); go_simp; first | (constructor <;> with_reducible rfl) | (with_reducible rfl)) (by intro w' hC; (try dsimp only at hC); exact (bytes_c bw B v2 _ w' hC.wv).mono (fun e wx ⟨h, hh⟩ => ⟨by rw [h, HL4.out], by rw [← hh]; exact hC⟩)) ?_
    try simp only [Act.put, List.setIfInBounds_toArray, List.set_cons_zero, List.set_cons_succ]
    iterate 3 (refine q_take (v := ?_) (by kernel_rfl) (by intro w' hC; (try dsimp only at hC); have e0 := hC.c0; have e1 := hC.c1; go_simp; try (with_reducible rfl)) ?_; try simp only [Act.put, List.setIfInBounds_toArray, List.set_cons_zero, List.set_cons_succ])
    refine q_done ?_
    intro w9 hC9
    have H9 := Lib.hid hC9.bel
    clear hC9
    go_wp2_with fail
    go_ret2
    rw [HE.out]
    exact ⟨by
      show Ending.returned (.tuple #[.string ((((⟨B1.toArray⟩ : ByteArray) ++ ⟨B2.toArray⟩) ++ ⟨B3.toArray⟩) ++ ⟨l4.toArray⟩), .int .i64 0]) = _
      rw [bs_app, bs_app, bs_app, List.append_assoc, List.append_assoc], H9.out⟩
  · skip
    go_wp2_with fail
    refine (new_c _).mono ?_
    rintro e w2 ⟨rfl, hw2, hb2, hz2⟩
    have HS : Hid (EncS w w2 bt wb.heap.size w2.heap.size (.slice none 0 0) [] X Y k v) := ⟨bel_at hb2 hc0, bel_at hb2 hc1, bel_at hb2 hc3, bel_at hb2 hc4, hw2, HB.out.trans (hb2.mono HB.out.size), HB.out.size, hlt⟩
    clear hw2 hb2 hz2 hc0 hc1 hc2 hc3 hc4
    obtain ⟨bw, hbw⟩ : ∃ bw, bw = wb.heap.size := ⟨_, rfl⟩
    obtain ⟨B, hB⟩ : ∃ B, B = w2.heap.size := ⟨_, rfl⟩
    rw [← hbw]
    have HS1 : Hid (EncS w w2 bt bw B (.slice none 0 0) [] X Y k v) := by rw [hbw, hB]; exact HS
    clear HS hbw hB
    have q3 := HS1.out.c3
    go_wp2_with fail
    refine (text_c bw B _ _ k _ HS1.out.wv (by omega) (by simp; omega)).mono ?_
    rintro e w3 ⟨rfl, v1, hs3⟩
    have H3 := Lib.hid (HS1.out.lay hs3)
    clear hs3 q3
    have q4 := H3.out.c4
    have hkl := txl_len (s := k) (by omega)
    have hvl := txl_len (s := v) (by omega)
    go_wp2_with fail
    refine (text_c bw B _ _ v _ H3.out.wv (by omega) (by simp; omega)).mono ?_
    rintro e w4 ⟨rfl, v2, hs4⟩
    have H4 : Hid (EncS w w4 bt bw B v2 (txl k ++ txl v) X Y k v) := H3.out.lay hs4
    clear hs4 q4 H3 HS1 HB HWB HBT hlt
    have CB1 := Lib.hid (fun w' => big_yes 3 1 w' (by omega) (by decide) (by decide))
    have CB2 := Lib.hid (fun w' => big_yes X 2 w' (by omega) (by decide) (by decide))
    have CB3 := Lib.hid (fun w' => big_yes Y 2 w' (by omega) (by decide) (by decide))
    have hB1 := bigL_len 3 1
    have hB2 := bigL_len X 2
    have hB3 := bigL_len Y 2
    have hF0 : F = 3 := by have := hFb.out; simp at this; omega
    subst hF0
    generalize bigL 3 1 = B1 at CB1 hB1 HE
    generalize bigL X 2 = B2 at CB2 hB2 HE
    generalize bigL Y 2 = B3 at CB3 hB3 HE
    obtain ⟨l4, hl4⟩ : ∃ l4, l4 = txl k ++ txl v := ⟨_, rfl⟩
    have HL4 := Lib.hid hl4.symm
    have hl5 : l4.length ≤ 200 := by rw [hl4, List.length_append]; omega
    rw [← hl4] at HE
    clear hl4
    have hl6 : ¬ (9223372036854775807 < 5 + l4.length) := by omega
    go_wp2_with fail
    refine wp_region_q (fun wx => EncS w wx bt bw B v2 (txl k ++ txl v) X Y k v) (by kernel_rfl) (by kernel_rfl) (H4.out.below (by exact (Below.refl _ _).drew)) ?_
    iterate 1 (refine q_take (v := ?_) (by kernel_rfl) (by intro w' hC; (try dsimp only at hC); have e0 := hC.c0; have e1 := hC.c1; go_simp; try (with_reducible rfl)) ?_; try simp only [Act.put, List.setIfInBounds_toArray, List.set_cons_zero, List.set_cons_succ])
    refine q_call (v := .string ⟨B1.toArray⟩) (f := ?_) (args := ?_) (by kernel_rfl) (by intro w' hC; (try dsimp only at hC); go_simp; first | (constructor <;> with_reducible rfl) | (with_reducible rfl)) (by intro w' hC; (try dsimp only at hC); exact (CB1.out w').mono (fun e wx ⟨h, hh⟩ => ⟨h, hC.below hh⟩)) ?_
    try simp only [Act.put, List.setIfInBounds_toArray, List.set_cons_zero, List.set_cons_succ]
    iterate 2 (refine q_take (v := ?_) (by kernel_rfl) (by intro w' hC; (try dsimp only at hC); have e0 := hC.c0; have e1 := hC.c1; go_simp; try (with_reducible rfl)) ?_; try simp only [Act.put, List.setIfInBounds_toArray, List.set_cons_zero, List.set_cons_succ])
    refine q_call (v := .string ⟨B2.toArray⟩) (f := ?_) (args := ?_) (by kernel_rfl) (by intro w' hC; (try dsimp only at hC); go_simp; first | (constructor <;> with_reducible rfl) | (with_reducible rfl)) (by intro w' hC; (try dsimp only at hC); exact (CB2.out w').mono (fun e wx ⟨h, hh⟩ => ⟨h, hC.below hh⟩)) ?_
    try simp only [Act.put, List.setIfInBounds_toArray, List.set_cons_zero, List.set_cons_succ]
    iterate 3 (refine q_take (v := ?_) (by kernel_rfl) (by intro w' hC; (try dsimp only at hC); have e0 := hC.c0; have e1 := hC.c1; go_simp; try (with_reducible rfl)) ?_; try simp only [Act.put, List.setIfInBounds_toArray, List.set_cons_zero, List.set_cons_succ])
    refine q_call (v := .string ⟨B3.toArray⟩) (f := ?_) (args := ?_) (by kernel_rfl) (by intro w' hC; (try dsimp only at hC); go_simp; first | (constructor <;> with_reducible rfl) | (with_reducible rfl)) (by intro w' hC; (try dsimp only at hC); exact (CB3.out w').mono (fun e wx ⟨h, hh⟩ => ⟨h, hC.below hh⟩)) ?_
    try simp only [Act.put, List.setIfInBounds_toArray, List.set_cons_zero, List.set_cons_succ]
    iterate 2 (refine q_take (v := ?_) (by kernel_rfl) (by intro w' hC; (try dsimp only at hC); have e0 := hC.c0; have e1 := hC.c1; go_simp; try (with_reducible rfl)) ?_; try simp only [Act.put, List.setIfInBounds_toArray, List.set_cons_zero, List.set_cons_succ])
    refine q_call (v := .string ⟨l4.toArray⟩) (f := ?_) (args := ?_) (by kernel_rfl) (by intro w' hC; (try dsimp only at hC); go_simp; first | (constructor <;> with_reducible rfl) | (with_reducible rfl)) (by intro w' hC; (try dsimp only at hC); exact (bytes_c bw B v2 _ w' hC.wv).mono (fun e wx ⟨h, hh⟩ => ⟨by rw [h, HL4.out], by rw [← hh]; exact hC⟩)) ?_
    try simp only [Act.put, List.setIfInBounds_toArray, List.set_cons_zero, List.set_cons_succ]
    iterate 3 (refine q_take (v := ?_) (by kernel_rfl) (by intro w' hC; (try dsimp only at hC); have e0 := hC.c0; have e1 := hC.c1; go_simp; try (with_reducible rfl)) ?_; try simp only [Act.put, List.setIfInBounds_toArray, List.set_cons_zero, List.set_cons_succ])
    refine q_done ?_
    intro w9 hC9
    have H9 := Lib.hid hC9.bel
    clear hC9
    go_wp2_with fail
    go_ret2
    rw [HE.out]
    exact ⟨by
      show Ending.returned (.tuple #[.string ((((⟨B1.toArray⟩ : ByteArray) ++ ⟨B2.toArray⟩) ++ ⟨B3.toArray⟩) ++ ⟨l4.toArray⟩), .int .i64 0]) = _
      rw [bs_app, bs_app, bs_app, List.append_assoc, List.append_assoc], H9.out⟩
end Go.Proofs.Ytkjnjccjkjachaa
