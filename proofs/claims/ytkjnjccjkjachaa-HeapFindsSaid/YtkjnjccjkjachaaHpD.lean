/- Pages with an item more; heap.lay. -/
import Derived.Test.YtkjnjccjkjachaaHpC
import Derived.Deep.RegionHeld
namespace Go.Proofs.Ytkjnjccjkjachaa
open Go.RowKit
set_option linter.unusedSimpArgs false
set_option maxRecDepth 100000

theorem pk_cells {w : World} {b : Nat} {a0 a1 a2 a3 : Int} {h : ByteArray} {v : Value} (H : w.heap[b]? = some (.cells #[.int .i64 a0, .int .i64 a1, .int .i64 a2, .int .i64 a3, .string h, v] 24 (0, 0))) :
    w.cell? ⟨b, 0, none⟩ = some (.int .i64 a0) ∧ w.cell? ⟨b, 1, none⟩ = some (.int .i64 a1) ∧ w.cell? ⟨b, 2, none⟩ = some (.int .i64 a2) ∧ w.cell? ⟨b, 3, none⟩ = some (.int .i64 a3) ∧ w.cell? ⟨b, 4, none⟩ = some (.string h) ∧ w.cell? ⟨b, 5, none⟩ = some v := by
  refine ⟨?_, ?_, ?_, ?_, ?_, ?_⟩ <;> (simp only [World.cell?, H]; rfl)
theorem P2.belowB {W wx w' : World} {bt br : Nat} {a0 a1 a2 a3 : Int} {h : ByteArray} {v : Value} {ao : Option Addr} {len : Nat} {S : Nat → ByteArray} (H : P2 W wx bt br a0 a1 a2 a3 h v ao len S) {B : Nat} (hb : Below B wx w') (hB : br < B) : P2 W w' bt br a0 a1 a2 a3 h v ao len S :=
  ⟨(hb.block bt (by have := H.ne; omega)).trans H.tb, (hb.block br hB).trans H.pr, H.i0, H.bel.trans (hb.mono (by have := H.le; omega)), H.lt, H.ne⟩
theorem own_below {w w' : World} {B : Nat} {v : Value} {n : Nat} {xs : List Value} (h : w.ownsRow B 9 1 v n xs) (hb : Below w.heap.size w w') : w'.ownsRow B 9 1 v n xs :=
  h.kept (grown_of hb) (by cases v.ownBlock <;> simp)
theorem own_lower {w : World} {B C : Nat} {v : Value} {n : Nat} {xs : List Value} (h : w.ownsRow B 9 1 v n xs) (hc : C ≤ B) : w.ownsRow C 9 1 v n xs := by
  obtain ⟨h1, h2 | ⟨g, cap, cur, e1, e2, e3⟩⟩ := h
  · exact ⟨h1, .inl h2⟩
  · exact ⟨h1, .inr ⟨g, cap, cur, e1, by omega, e3⟩⟩

set_option maxHeartbeats 8000000 in
/-- A page with an item behind all. -/
theorem put_c (a0 a1 a2 a3 : Int) (h : ByteArray) (ao : Option Addr) (len cap : Nat) (S : Nat → ByteArray) (x : ByteArray) (w : World) (hlen : len ≤ 8796093022000) (hM : Small h S len) (hx : x.size ≤ 140737488355328) (hs : StrsIn w ao len S) :
    Calls Try.prog 38 #[.agg #[.int .i64 a0, .int .i64 a1, .int .i64 a2, .int .i64 a3, .string h, .slice ao len cap], .int .i64 len, .string x] w fun e w' => POut w (if okfit h (updS S len x) (len + 1) = true then 0 else 3) e w' := by
  obtain ⟨E, hE⟩ : ∃ E : Int, E = if okfit h (updS S len x) (len + 1) = true then 0 else 3 := ⟨_, rfl⟩
  rw [← hE]
  have hM2 : Small h (updS S len x) (len + 1) := ⟨hM.hh, fun j hj => by
    unfold updS; split
    · exact hx
    · exact hM.it j (by omega)⟩
  have F := Lib.hid (fun w' ao' cap' hh => turned_c a0 a1 a2 a3 h ao len cap ao' (len + 1) cap' (updS S len x) w' (by omega) hM2 hh)
  rw [← hE] at F
  obtain ⟨wc, bt, br, hwc, hbt, hbr, h1⟩ := P2.new w a0 a1 a2 a3 h (.slice ao len cap) ao len S hs
  have H1 := Lib.hid h1
  have HWC := Lib.hid hwc
  have HBT := Lib.hid hbt
  have HBR := Lib.hid hbr
  have HM2 := Lib.hid hM2
  clear hwc hbt hbr h1 hs hM hE hM2 hx
  go_enter Try.func38, Try.ntmps38
  have c := H1.out.cell
  rw [HWC.out, HBT.out] at c
  obtain ⟨c0, c1, c2, c3, c4, c5⟩ := c
  go_upto_region 3 with (fail)
  clear c0 c1 c2 c3 c4 c5
  rw [← HWC.out, ← HBR.out, ← HBT.out]
  clear HWC HBT HBR
  have HD : Hid (P2 w wc.drew bt br a0 a1 a2 a3 h (.slice ao len cap) ao len S) := H1.out.below (by exact (Below.refl _ _).drew)
  have HLB : Hid (br < wc.drew.heap.size) := row_lt HD.out.pr
  clear H1
  refine wp_region_held_drew (S := fun wx => wx.heap[bt]? = some (.cells #[.int .i64 a0, .int .i64 a1, .int .i64 a2, .int .i64 a3, .string h, .slice ao len cap] 24 (0, 0))) (by kernel_rfl) (HD.out.tb) (fun hHeld => ?_)
  generalize wc.drew = wd at *
  refine take_op (i := 0) (d := some 18) (v := ?_) rfl rfl (by kernel_rfl) (by kernel_rfl) (by kernel_rfl) (fun _ _ _ h => h) (Or.inl ⟨by rfl, ?_⟩) (by assumption) ?_
  rotate_left
  · (intro w' hSw; (try dsimp only at hSw); obtain ⟨c0, c1, c2, c3, c4, c5⟩ := pk_cells hSw; go_simp; try (with_reducible rfl))
  try simp only [Act.put, List.setIfInBounds_toArray, List.set_cons_zero, List.set_cons_succ]
  refine take_op (i := 1) (d := some 19) (v := ?_) rfl rfl (by kernel_rfl) (by kernel_rfl) (by kernel_rfl) (fun _ _ _ h => h) (Or.inl ⟨by rfl, ?_⟩) (by assumption) ?_
  rotate_left
  · (intro w' hSw; (try dsimp only at hSw); obtain ⟨c0, c1, c2, c3, c4, c5⟩ := pk_cells hSw; go_simp; try (with_reducible rfl))
  try simp only [Act.put, List.setIfInBounds_toArray, List.set_cons_zero, List.set_cons_succ]
  refine take_op (i := 2) (d := some 20) (v := ?_) rfl rfl (by kernel_rfl) (by kernel_rfl) (by kernel_rfl) (fun _ _ _ h => h) (Or.inl ⟨by rfl, ?_⟩) (by assumption) ?_
  rotate_left
  · (intro w' hSw; (try dsimp only at hSw); obtain ⟨c0, c1, c2, c3, c4, c5⟩ := pk_cells hSw; go_simp; try (with_reducible rfl))
  try simp only [Act.put, List.setIfInBounds_toArray, List.set_cons_zero, List.set_cons_succ]
  refine take_op (i := 4) (d := some 22) (v := ?_) rfl rfl (by kernel_rfl) (by kernel_rfl) (by kernel_rfl) (fun _ _ _ h => h) (Or.inl ⟨by rfl, ?_⟩) (by assumption) ?_
  rotate_left
  · (intro w' hSw; (try dsimp only at hSw); obtain ⟨c0, c1, c2, c3, c4, c5⟩ := pk_cells hSw; go_simp; try (with_reducible rfl))
  try simp only [Act.put, List.setIfInBounds_toArray, List.set_cons_zero, List.set_cons_succ]
  refine take_op (i := 5) (d := some 23) (v := ?_) rfl rfl (by kernel_rfl) (by kernel_rfl) (by kernel_rfl) (fun _ _ _ h => h) (Or.inl ⟨by rfl, ?_⟩) (by assumption) ?_
  rotate_left
  · (intro w' hSw; (try dsimp only at hSw); obtain ⟨c0, c1, c2, c3, c4, c5⟩ := pk_cells hSw; go_simp; try (with_reducible rfl))
  try simp only [Act.put, List.setIfInBounds_toArray, List.set_cons_zero, List.set_cons_succ]
  refine wpAnyH_ready (rs := [3, 6]) (by kernel_rfl) (by simp) ?_
  refine AllReadyH.cons rfl (fun K hK => ?_) (AllReadyH.cons rfl (fun K hK => ?_) AllReadyH.nil)
  · go_simp
    have HLB := Lib.hid (row_lt HD.out.pr)
    refine (clone_c ao len cap S _ (by omega) HD.out.it).mono ?_
    rintro e w3 ⟨v, rfl, hv, hb3⟩
    have HV := Lib.hid hv
    have HB := Lib.hid HLB.out
    have HD := Lib.hid (HD.out.below hb3)
    have HSZ := Lib.hid hb3.size
    clear hv hb3
    refine hK.out _ _ HD.out.tb (fun hHeld => ?_)
    clear hK K
    try simp only [Act.put, List.setIfInBounds_toArray, List.set_cons_zero, List.set_cons_succ]
    refine wpAnyH_ready (rs := [6]) (by kernel_rfl) (by simp) ?_
    refine AllReadyH.cons rfl (fun K hK => ?_) AllReadyH.nil
    go_simp
    have ha := (Below.refl w3.heap.size w3).alloc (Nat.le_refl _) (.cells #[.string x] 9)
    have HV := Lib.hid (own_below HV.out ha)
    have HX : Hid ((w3.alloc (.cells #[.string x] 9)).cell? ⟨w3.heap.size, 0, none⟩ = some (.string x)) := by (have hq := heap_alloc_new w3 (.cells #[.string x] 9); unfold Hid; simp only [World.cell?, hq]; rfl)
    have HSZ := Lib.hid (Nat.le_trans HSZ.out ha.size)
    have HD := Lib.hid (HD.out.below ha)
    clear ha
    refine hK.out _ _ HD.out.tb (fun hHeld => ?_)
    clear hK K
    try simp only [Act.put, List.setIfInBounds_toArray, List.set_cons_zero, List.set_cons_succ]
    refine wpAnyH_ready (rs := [7]) (by kernel_rfl) (by simp) ?_
    refine AllReadyH.cons rfl (fun K hK => ?_) AllReadyH.nil
    go_simp
    refine (insert_c v len _ _ S x _ hlen HV.out HX.out HSZ.out).mono ?_
    rintro e w5 ⟨v5, rfl, hv5, hb5⟩
    have HV := Lib.hid hv5
    have HD := Lib.hid (HD.out.belowB hb5 HB.out)
    obtain ⟨ao5, cp5, rfl, hs5⟩ := own_strs HV.out (fun j hj => by have := HM2.out.it j hj; omega)
    have HS5 := Lib.hid hs5
    clear hv5 hb5 hs5
    refine hK.out _ _ HD.out.tb (fun hHeld => ?_)
    clear hK K
    try simp only [Act.put, List.setIfInBounds_toArray, List.set_cons_zero, List.set_cons_succ]
    refine wpAnyH_ready (rs := [8]) (by kernel_rfl) (by simp) ?_
    refine AllReadyH.cons rfl (fun K hK => ?_) AllReadyH.nil
    go_simp
    refine (F.out w5 _ _ HS5.out).mono ?_
    rintro e w6 ⟨⟨b0, b1, b2, b3, k, ao6, n6, c6, rfl⟩, hb6⟩
    have HD := Lib.hid (HD.out.below hb6)
    clear hb6
    refine hK.out _ _ HD.out.tb (fun hHeld => ?_)
    clear hK K
    try simp only [Act.put, List.setIfInBounds_toArray, List.set_cons_zero, List.set_cons_succ]
    refine take_op (i := 9) (d := some 27) (v := ?_) rfl rfl (by kernel_rfl) (by kernel_rfl) (by kernel_rfl) (fun _ _ _ h => h) (Or.inl ⟨by rfl, ?_⟩) (by assumption) ?_
    rotate_left
    · (intro w' hSw; (try dsimp only at hSw); obtain ⟨c0, c1, c2, c3, c4, c5⟩ := pk_cells hSw; go_simp; try (with_reducible rfl))
    try simp only [Act.put, List.setIfInBounds_toArray, List.set_cons_zero, List.set_cons_succ]
    refine take_op (i := 10) (d := some 28) (v := ?_) rfl rfl (by kernel_rfl) (by kernel_rfl) (by kernel_rfl) (fun _ _ _ h => h) (Or.inl ⟨by rfl, ?_⟩) (by assumption) ?_
    rotate_left
    · (intro w' hSw; (try dsimp only at hSw); obtain ⟨c0, c1, c2, c3, c4, c5⟩ := pk_cells hSw; go_simp; try (with_reducible rfl))
    try simp only [Act.put, List.setIfInBounds_toArray, List.set_cons_zero, List.set_cons_succ]
    refine wpAnyH_ready (rs := [11]) (by kernel_rfl) (by simp) ?_
    refine AllReadyH.cons rfl (fun K hK => ?_) AllReadyH.nil
    rw [if_pos (by rfl)]
    refine wp_st_row 24 _ _ rfl br rfl _ rfl HD.out.pr (by kernel_rfl) rfl (by simp [Value.oneCell']) (fun w7 hp7 hg7 => ?_)
    try simp only [Act.put, List.setIfInBounds_toArray, List.set_cons_zero, List.set_cons_succ]
    have HP7 := Lib.hid hp7
    have HB7 := Lib.hid (below_own HD.out.bel HD.out.le hg7)
    have htb := (hg7.block bt (row_lt HD.out.tb) (by have := HD.out.ne; simp; omega)).trans HD.out.tb
    clear hp7 hg7
    refine hK.out _ _ htb (fun hHeld => ?_)
    clear hK K
    try simp only [Act.put, List.setIfInBounds_toArray, List.set_cons_zero, List.set_cons_succ]
    refine take_op (i := 12) (d := some 7) (v := ?_) rfl rfl (by kernel_rfl) (by kernel_rfl) (by kernel_rfl) (fun _ _ _ h => h) (Or.inl ⟨by rfl, ?_⟩) (by assumption) ?_
    rotate_left
    · (intro w' hSw; (try dsimp only at hSw); obtain ⟨c0, c1, c2, c3, c4, c5⟩ := pk_cells hSw; go_simp; try (with_reducible rfl))
    try simp only [Act.put, List.setIfInBounds_toArray, List.set_cons_zero, List.set_cons_succ]
    refine wpAnyH_done (by kernel_rfl) ?_ _
    go_wp2_with fail
    refine ret_cell rfl br _ _ _ _ rfl HP7.out Try.underlying24 rfl (by kernel_rfl) rfl ?_
    exact ⟨⟨_, _, _, _, _, _, _, _, rfl⟩, HB7.out⟩
  · go_simp
    have ha := (Below.refl wd.heap.size wd).alloc (Nat.le_refl _) (.cells #[.string x] 9)
    have HX : Hid ((wd.alloc (.cells #[.string x] 9)).cell? ⟨wd.heap.size, 0, none⟩ = some (.string x)) := by (have hq := heap_alloc_new wd (.cells #[.string x] 9); unfold Hid; simp only [World.cell?, hq]; rfl)
    have HD := Lib.hid (HD.out.below ha)
    clear ha
    refine hK.out _ _ HD.out.tb (fun hHeld => ?_)
    clear hK K
    try simp only [Act.put, List.setIfInBounds_toArray, List.set_cons_zero, List.set_cons_succ]
    refine wpAnyH_ready (rs := [3]) (by kernel_rfl) (by simp) ?_
    refine AllReadyH.cons rfl (fun K hK => ?_) AllReadyH.nil
    go_simp
    have HLB := Lib.hid (row_lt HD.out.pr)
    refine (clone_c ao len cap S _ (by omega) HD.out.it).mono ?_
    rintro e w3 ⟨v, rfl, hv, hb3⟩
    have HV := Lib.hid hv
    have HB := Lib.hid HLB.out
    have HX := Lib.hid (bel_at hb3 HX.out)
    have HD := Lib.hid (HD.out.below hb3)
    have HSZ := Lib.hid hb3.size
    clear hv hb3
    refine hK.out _ _ HD.out.tb (fun hHeld => ?_)
    clear hK K
    try simp only [Act.put, List.setIfInBounds_toArray, List.set_cons_zero, List.set_cons_succ]
    refine wpAnyH_ready (rs := [7]) (by kernel_rfl) (by simp) ?_
    refine AllReadyH.cons rfl (fun K hK => ?_) AllReadyH.nil
    go_simp
    refine (insert_c v len _ _ S x _ hlen HV.out HX.out HSZ.out).mono ?_
    rintro e w5 ⟨v5, rfl, hv5, hb5⟩
    have HV := Lib.hid hv5
    have HD := Lib.hid (HD.out.belowB hb5 HB.out)
    obtain ⟨ao5, cp5, rfl, hs5⟩ := own_strs HV.out (fun j hj => by have := HM2.out.it j hj; omega)
    have HS5 := Lib.hid hs5
    clear hv5 hb5 hs5
    refine hK.out _ _ HD.out.tb (fun hHeld => ?_)
    clear hK K
    try simp only [Act.put, List.setIfInBounds_toArray, List.set_cons_zero, List.set_cons_succ]
    refine wpAnyH_ready (rs := [8]) (by kernel_rfl) (by simp) ?_
    refine AllReadyH.cons rfl (fun K hK => ?_) AllReadyH.nil
    go_simp
    refine (F.out w5 _ _ HS5.out).mono ?_
    rintro e w6 ⟨⟨b0, b1, b2, b3, k, ao6, n6, c6, rfl⟩, hb6⟩
    have HD := Lib.hid (HD.out.below hb6)
    clear hb6
    refine hK.out _ _ HD.out.tb (fun hHeld => ?_)
    clear hK K
    try simp only [Act.put, List.setIfInBounds_toArray, List.set_cons_zero, List.set_cons_succ]
    refine take_op (i := 9) (d := some 27) (v := ?_) rfl rfl (by kernel_rfl) (by kernel_rfl) (by kernel_rfl) (fun _ _ _ h => h) (Or.inl ⟨by rfl, ?_⟩) (by assumption) ?_
    rotate_left
    · (intro w' hSw; (try dsimp only at hSw); obtain ⟨c0, c1, c2, c3, c4, c5⟩ := pk_cells hSw; go_simp; try (with_reducible rfl))
    try simp only [Act.put, List.setIfInBounds_toArray, List.set_cons_zero, List.set_cons_succ]
    refine take_op (i := 10) (d := some 28) (v := ?_) rfl rfl (by kernel_rfl) (by kernel_rfl) (by kernel_rfl) (fun _ _ _ h => h) (Or.inl ⟨by rfl, ?_⟩) (by assumption) ?_
    rotate_left
    · (intro w' hSw; (try dsimp only at hSw); obtain ⟨c0, c1, c2, c3, c4, c5⟩ := pk_cells hSw; go_simp; try (with_reducible rfl))
    try simp only [Act.put, List.setIfInBounds_toArray, List.set_cons_zero, List.set_cons_succ]
    refine wpAnyH_ready (rs := [11]) (by kernel_rfl) (by simp) ?_
    refine AllReadyH.cons rfl (fun K hK => ?_) AllReadyH.nil
    rw [if_pos (by rfl)]
    refine wp_st_row 24 _ _ rfl br rfl _ rfl HD.out.pr (by kernel_rfl) rfl (by simp [Value.oneCell']) (fun w7 hp7 hg7 => ?_)
    try simp only [Act.put, List.setIfInBounds_toArray, List.set_cons_zero, List.set_cons_succ]
    have HP7 := Lib.hid hp7
    have HB7 := Lib.hid (below_own HD.out.bel HD.out.le hg7)
    have htb := (hg7.block bt (row_lt HD.out.tb) (by have := HD.out.ne; simp; omega)).trans HD.out.tb
    clear hp7 hg7
    refine hK.out _ _ htb (fun hHeld => ?_)
    clear hK K
    try simp only [Act.put, List.setIfInBounds_toArray, List.set_cons_zero, List.set_cons_succ]
    refine take_op (i := 12) (d := some 7) (v := ?_) rfl rfl (by kernel_rfl) (by kernel_rfl) (by kernel_rfl) (fun _ _ _ h => h) (Or.inl ⟨by rfl, ?_⟩) (by assumption) ?_
    rotate_left
    · (intro w' hSw; (try dsimp only at hSw); obtain ⟨c0, c1, c2, c3, c4, c5⟩ := pk_cells hSw; go_simp; try (with_reducible rfl))
    try simp only [Act.put, List.setIfInBounds_toArray, List.set_cons_zero, List.set_cons_succ]
    refine wpAnyH_done (by kernel_rfl) ?_ _
    go_wp2_with fail
    refine ret_cell rfl br _ _ _ _ rfl HP7.out Try.underlying24 rfl (by kernel_rfl) rfl ?_
    exact ⟨⟨_, _, _, _, _, _, _, _, rfl⟩, HB7.out⟩
end Go.Proofs.Ytkjnjccjkjachaa
