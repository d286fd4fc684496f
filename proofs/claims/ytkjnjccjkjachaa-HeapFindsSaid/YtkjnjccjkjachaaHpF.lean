/- heap.Room: how long a version's bytes may be that still fit. -/
import Derived.Test.YtkjnjccjkjachaaHpE
namespace Go.Proofs.Ytkjnjccjkjachaa
open Go.RowKit
set_option linter.unusedSimpArgs false
set_option maxRecDepth 100000

/-- The room of a page of versions: n is its first free slot. -/
def hroom (a1 : Int) (h : ByteArray) (S : Nat → ByteArray) (len n : Nat) : Nat :=
  if a1 ≠ 2 ∨ 255 < len then 0 else if n < len then 512 - psz h S len else if 255 ≤ len ∨ 510 < psz h S len then 0 else 510 - psz h S len
theorem lay_free {h : ByteArray} {S : Nat → ByteArray} {len n : Nat} (hn : n < len) (h0 : (S n).size = 0) (x : ByteArray) : layE h S len n x = if len ≤ 255 ∧ psz h S len + x.size ≤ 512 then 0 else 3 := by
  have h1 := itot_upd S n x hn
  unfold layE okfit psz
  rw [Nat.max_eq_left (by omega)]
  by_cases h2 : len ≤ 255 ∧ 20 + h.size + itot S len + x.size ≤ 512
  · rw [if_pos h2, if_pos (by rw [decide_eq_true h2.1, decide_eq_true (by omega)]; rfl)]
  · rw [if_neg h2, if_neg (by simp; omega)]
theorem lay_end (h : ByteArray) (S : Nat → ByteArray) (len : Nat) (x : ByteArray) : layE h S len len x = if len < 255 ∧ psz h S len + 2 + x.size ≤ 512 then 0 else 3 := by
  have h1 := itot_end S len x
  unfold layE okfit psz
  rw [Nat.max_eq_right (by omega)]
  by_cases h2 : len < 255 ∧ 20 + h.size + itot S len + 2 + x.size ≤ 512
  · rw [if_pos h2, if_pos (by rw [decide_eq_true (by omega), decide_eq_true (by omega)]; rfl)]
  · rw [if_neg h2, if_neg (by simp; omega)]
theorem reps_c (c : Nat) (hc : c ≤ 512) (w : World) : Calls Try.prog 19 #[.string ⟨#[120]⟩, .int .i64 c] w fun e w' => (∃ x : ByteArray, e = .returned (.string x) ∧ x.size = c) ∧ Below w.heap.size w w' := by
  refine (Try.strings_Repeat ⟨#[120]⟩ c w (by omega) (by show 1 * c ≤ 140737488355328; omega)).mono ?_
  rintro e w' ⟨rfl, hb⟩
  exact ⟨⟨_, rfl, by rw [mk_size, Lib.repeatL_length]; show c * 1 = c; omega⟩, hb⟩

set_option maxHeartbeats 8000000 in
theorem room_c (a0 a1 a2 a3 : Int) (h : ByteArray) (ao : Option Addr) (len cap n : Nat) (S : Nat → ByteArray) (w : World) (hlen : len ≤ 9223372036854775807) (hM : Small h S len) (hn : isFst S len n) (hs : StrsIn w ao len S) :
    Calls Try.prog 6 #[.agg #[.int .i64 a0, .int .i64 a1, .int .i64 a2, .int .i64 a3, .string h, .slice ao len cap]] w fun e w' => e = .returned (.int .i64 (hroom a1 h S len n : Nat)) ∧ Below w.heap.size w w' := by
  have H0 : Hid (PB w (w.alloc (.cells #[.int .i64 a0, .int .i64 a1, .int .i64 a2, .int .i64 a3, .string h, .slice ao len cap] 24)) w.heap.size a0 a1 a2 a3 h ao len cap S) := PB.new w a0 a1 a2 a3 h ao len cap S hs
  obtain ⟨c0, c1, c2, c3, c4, c5⟩ := H0.out.cell
  clear hs
  by_cases ha : a1 = 2
  · by_cases hl : len ≤ 255
    · subst ha
      have hz := psz_le hM hl
      have FS := Lib.hid (fun w' hh => slot_c a0 2 a2 a3 h ao len cap n S w' hlen hh hn)
      have FZ := Lib.hid (fun w' hh => size_c a0 2 a2 a3 h ao len cap S w' hl hM hh)
      have FP := Lib.hid (fun w' hh => proom_c a0 2 a2 a3 h ao len cap S w' hl hM hh)
      have FL := Lib.hid (fun x (hx : x.size ≤ 140737488355328) w' hh => lay_c a0 2 a2 a3 h ao len cap n S x w' hn.1 (by omega) hM hx hh)
      by_cases hnl : n < len
      · have HR : Hid (hroom 2 h S len n = 512 - psz h S len) := by unfold Hid hroom; rw [if_neg (by omega), if_pos hnl]
        have HX : Hid (∀ x : ByteArray, x.size = 512 - psz h S len → layE h S len n x = 0 ∨ (layE h S len n x = 3 ∧ 512 - psz h S len = 0)) := by
          intro x hx
          rw [lay_free hnl (hn.2.2 hnl) x]
          split
          · exact .inl rfl
          · exact .inr ⟨rfl, by omega⟩
        rw [HR.out]
        clear HR FP hn hM
        generalize psz h S len = z at *
        go_enter Try.func6, Try.ntmps6
        go_wp2_with fail
        generalize w.alloc (.cells #[.int .i64 a0, .int .i64 2, .int .i64 a2, .int .i64 a3, .string h, .slice ao len cap] 24) = wb at *
        clear c0 c1 c2 c3 c4 c5
        refine (FS.out wb H0.out.it).mono ?_
        rintro e w1 ⟨rfl, hb1⟩
        have H1 := Lib.hid (H0.out.below hb1)
        clear hb1 H0 FS
        obtain ⟨c0, c1, c2, c3, c4, c5⟩ := H1.out.cell
        go_wp2_with fail
        clear c0 c1 c2 c3 c4 c5
        refine (FZ.out w1 H1.out.it).mono ?_
        rintro e w2 ⟨rfl, hb2⟩
        have H2 := Lib.hid (H1.out.below hb2)
        clear hb2 H1 FZ
        obtain ⟨c0, c1, c2, c3, c4, c5⟩ := H2.out.cell
        go_upto_region 9 with (fail)
        clear c0 c1 c2 c3 c4 c5
        have HD : Hid (PB w w2.drew w.heap.size a0 2 a2 a3 h ao len cap S) := H2.out.below (by exact (Below.refl _ _).drew)
        clear H2
        refine wp_region_held_drew (S := fun wx => wx.heap[w.heap.size]? = some (.cells #[.int .i64 a0, .int .i64 2, .int .i64 a2, .int .i64 a3, .string h, .slice ao len cap] 24 (0, 0))) (by kernel_rfl) (HD.out.tb) (fun hHeld => ?_)
        generalize w2.drew = wd at *
        refine take_op (i := 0) (d := some 31) (v := ?_) rfl rfl (by kernel_rfl) (by kernel_rfl) (by kernel_rfl) (fun _ _ _ h => h) (Or.inl ⟨by rfl, ?_⟩) (by assumption) ?_
        rotate_left
        · (intro w' hSw; (try dsimp only at hSw); obtain ⟨c0, c1, c2, c3, c4, c5⟩ := pk_cells hSw; go_simp; try (with_reducible rfl))
        try simp only [Act.put, List.setIfInBounds_toArray, List.set_cons_zero, List.set_cons_succ]
        refine take_op (i := 1) (d := some 32) (v := ?_) rfl rfl (by kernel_rfl) (by kernel_rfl) (by kernel_rfl) (fun _ _ _ h => h) (Or.inl ⟨by rfl, ?_⟩) (by assumption) ?_
        rotate_left
        · (intro w' hSw; (try dsimp only at hSw); obtain ⟨c0, c1, c2, c3, c4, c5⟩ := pk_cells hSw; go_simp; try (with_reducible rfl))
        try simp only [Act.put, List.setIfInBounds_toArray, List.set_cons_zero, List.set_cons_succ]
        refine take_op (i := 2) (d := some 33) (v := ?_) rfl rfl (by kernel_rfl) (by kernel_rfl) (by kernel_rfl) (fun _ _ _ h => h) (Or.inl ⟨by rfl, ?_⟩) (by assumption) ?_
        rotate_left
        · (intro w' hSw; (try dsimp only at hSw); obtain ⟨c0, c1, c2, c3, c4, c5⟩ := pk_cells hSw; go_simp; try (with_reducible rfl))
        try simp only [Act.put, List.setIfInBounds_toArray, List.set_cons_zero, List.set_cons_succ]
        refine take_op (i := 3) (d := some 34) (v := ?_) rfl rfl (by kernel_rfl) (by kernel_rfl) (by kernel_rfl) (fun _ _ _ h => h) (Or.inl ⟨by rfl, ?_⟩) (by assumption) ?_
        rotate_left
        · (intro w' hSw; (try dsimp only at hSw); obtain ⟨c0, c1, c2, c3, c4, c5⟩ := pk_cells hSw; go_simp; try (with_reducible rfl))
        try simp only [Act.put, List.setIfInBounds_toArray, List.set_cons_zero, List.set_cons_succ]
        refine wpAnyH_ready (rs := [4, 9]) (by kernel_rfl) (by simp) ?_
        refine AllReadyH.cons rfl (fun K hK => ?_) (AllReadyH.cons rfl (fun K hK => ?_) AllReadyH.nil)
        · go_simp
          rw [show max (0 : Int) (512 - (z : Int)) = (((512 - z) : Nat) : Int) by omega]
          refine (reps_c (512 - z) (by omega) _).mono ?_
          rintro e w4 ⟨⟨x, rfl, hx⟩, hb⟩
          have HX1 := Lib.hid hx
          have HD := Lib.hid (HD.out.below hb)
          clear hb
          refine hK.out _ _ HD.out.tb (fun hHeld => ?_)
          clear hK K
          try simp only [Act.put, List.setIfInBounds_toArray, List.set_cons_zero, List.set_cons_succ]
          refine wpAnyH_ready (rs := [5, 9]) (by kernel_rfl) (by simp) ?_
          refine AllReadyH.cons rfl (fun K hK => ?_) (AllReadyH.cons rfl (fun K hK => ?_) AllReadyH.nil)
          · go_simp
            refine (FL.out x (by have := HX1.out; omega) _ HD.out.it).mono ?_
            rintro e w5 ⟨⟨b0, b1, b2, b3, k, ao6, n6, c6, rfl⟩, hb⟩
            have HD := Lib.hid (HD.out.below hb)
            clear hb
            refine hK.out _ _ HD.out.tb (fun hHeld => ?_)
            clear hK K
            try simp only [Act.put, List.setIfInBounds_toArray, List.set_cons_zero, List.set_cons_succ]
            refine take_op (i := 6) (d := some 30) (v := ?_) rfl rfl (by kernel_rfl) (by kernel_rfl) (by kernel_rfl) (fun _ _ _ h => h) (Or.inl ⟨by rfl, ?_⟩) (by assumption) ?_
            rotate_left
            · (intro w' hSw; (try dsimp only at hSw); obtain ⟨c0, c1, c2, c3, c4, c5⟩ := pk_cells hSw; go_simp; try (with_reducible rfl))
            try simp only [Act.put, List.setIfInBounds_toArray, List.set_cons_zero, List.set_cons_succ]
            refine take_op (i := 7) (d := some 37) (v := ?_) rfl rfl (by kernel_rfl) (by kernel_rfl) (by kernel_rfl) (fun _ _ _ h => h) (Or.inl ⟨by rfl, ?_⟩) (by assumption) ?_
            rotate_left
            · (intro w' hSw; (try dsimp only at hSw); obtain ⟨c0, c1, c2, c3, c4, c5⟩ := pk_cells hSw; go_simp; try (with_reducible rfl))
            try simp only [Act.put, List.setIfInBounds_toArray, List.set_cons_zero, List.set_cons_succ]
            refine take_op (i := 8) (d := some 38) (v := ?_) rfl rfl (by kernel_rfl) (by kernel_rfl) (by kernel_rfl) (fun _ _ _ h => h) (Or.inl ⟨by rfl, ?_⟩) (by assumption) ?_
            rotate_left
            · (intro w' hSw; (try dsimp only at hSw); obtain ⟨c0, c1, c2, c3, c4, c5⟩ := pk_cells hSw; go_simp; try (with_reducible rfl))
            try simp only [Act.put, List.setIfInBounds_toArray, List.set_cons_zero, List.set_cons_succ]
            refine wpAnyH_ready (rs := [9]) (by kernel_rfl) (by simp) ?_
            refine AllReadyH.cons rfl (fun K hK => ?_) AllReadyH.nil
            go_simp
            have HA : Hid ((w5.alloc (.cells #[.int .i64 0, .int .i64 0, .int .i64 0, .int .i64 0, .string ⟨#[]⟩, .slice none 0 0] 24)).heap[w5.heap.size]? = some (.cells #[.int .i64 0, .int .i64 0, .int .i64 0, .int .i64 0, .string ⟨#[]⟩, .slice none 0 0] 24 (0, 0))) := heap_alloc_new _ _
            have HNE : Hid (w.heap.size < w5.heap.size) := row_lt HD.out.tb
            have HD := Lib.hid (HD.out.below ((Below.refl _ _).alloc (Nat.le_refl _) (.cells #[.int .i64 0, .int .i64 0, .int .i64 0, .int .i64 0, .string ⟨#[]⟩, .slice none 0 0] 24)))
            refine hK.out _ _ HD.out.tb (fun hHeld => ?_)
            clear hK K
            try simp only [Act.put, List.setIfInBounds_toArray, List.set_cons_zero, List.set_cons_succ]
            generalize w5.alloc (.cells #[.int .i64 0, .int .i64 0, .int .i64 0, .int .i64 0, .string ⟨#[]⟩, .slice none 0 0] 24) = w9 at *
            generalize w5.heap.size = ba at *
            refine wpAnyH_ready (rs := [10]) (by kernel_rfl) (by simp) ?_
            refine AllReadyH.cons rfl (fun K hK => ?_) AllReadyH.nil
            rw [if_pos (by rfl)]
            refine wp_st_row 24 _ _ rfl ba rfl _ rfl HA.out (by kernel_rfl) rfl (by simp [Value.oneCell']) (fun w7 hp7 hg7 => ?_)
            try simp only [Act.put, List.setIfInBounds_toArray, List.set_cons_zero, List.set_cons_succ]
            have HB7 := Lib.hid (below_own HD.out.bel (by have := HNE.out; omega) hg7)
            have htb := (hg7.block w.heap.size (row_lt HD.out.tb) (by have := HNE.out; simp; omega)).trans HD.out.tb
            clear hp7 hg7
            refine hK.out _ _ htb (fun hHeld => ?_)
            clear hK K
            try simp only [Act.put, List.setIfInBounds_toArray, List.set_cons_zero, List.set_cons_succ]
            refine take_op (i := 11) (d := some 6) (v := ?_) rfl rfl (by kernel_rfl) (by kernel_rfl) (by kernel_rfl) (fun _ _ _ h => h) (Or.inl ⟨by rfl, ?_⟩) (by assumption) ?_
            rotate_left
            · (intro w' hSw; (try dsimp only at hSw); obtain ⟨c0, c1, c2, c3, c4, c5⟩ := pk_cells hSw; go_simp; try (with_reducible rfl))
            try simp only [Act.put, List.setIfInBounds_toArray, List.set_cons_zero, List.set_cons_succ]
            refine wpAnyH_done (by kernel_rfl) ?_ _
            rcases HX.out x HX1.out with hE | ⟨hE, hz0⟩
            · rw [hE]
              go_wp2_with fail
              go_ret
              exact ⟨retI (by omega), HB7.out⟩
            · rw [hE]
              go_wp2_with fail
              go_ret
              exact ⟨retI (by omega), HB7.out⟩
          · go_simp
            have HA : Hid ((w4.alloc (.cells #[.int .i64 0, .int .i64 0, .int .i64 0, .int .i64 0, .string ⟨#[]⟩, .slice none 0 0] 24)).heap[w4.heap.size]? = some (.cells #[.int .i64 0, .int .i64 0, .int .i64 0, .int .i64 0, .string ⟨#[]⟩, .slice none 0 0] 24 (0, 0))) := heap_alloc_new _ _
            have HNE : Hid (w.heap.size < w4.heap.size) := row_lt HD.out.tb
            have HD := Lib.hid (HD.out.below ((Below.refl _ _).alloc (Nat.le_refl _) (.cells #[.int .i64 0, .int .i64 0, .int .i64 0, .int .i64 0, .string ⟨#[]⟩, .slice none 0 0] 24)))
            refine hK.out _ _ HD.out.tb (fun hHeld => ?_)
            clear hK K
            try simp only [Act.put, List.setIfInBounds_toArray, List.set_cons_zero, List.set_cons_succ]
            generalize w4.alloc (.cells #[.int .i64 0, .int .i64 0, .int .i64 0, .int .i64 0, .string ⟨#[]⟩, .slice none 0 0] 24) = w9 at *
            generalize w4.heap.size = ba at *
            refine wpAnyH_ready (rs := [5]) (by kernel_rfl) (by simp) ?_
            refine AllReadyH.cons rfl (fun K hK => ?_) AllReadyH.nil
            go_simp
            refine (FL.out x (by have := HX1.out; omega) _ HD.out.it).mono ?_
            rintro e w5 ⟨⟨b0, b1, b2, b3, k, ao6, n6, c6, rfl⟩, hb⟩
            have HA := Lib.hid ((hb.block ba (row_lt HA.out)).trans HA.out)
            have HD := Lib.hid (HD.out.below hb)
            clear hb
            refine hK.out _ _ HD.out.tb (fun hHeld => ?_)
            clear hK K
            try simp only [Act.put, List.setIfInBounds_toArray, List.set_cons_zero, List.set_cons_succ]
            refine take_op (i := 6) (d := some 30) (v := ?_) rfl rfl (by kernel_rfl) (by kernel_rfl) (by kernel_rfl) (fun _ _ _ h => h) (Or.inl ⟨by rfl, ?_⟩) (by assumption) ?_
            rotate_left
            · (intro w' hSw; (try dsimp only at hSw); obtain ⟨c0, c1, c2, c3, c4, c5⟩ := pk_cells hSw; go_simp; try (with_reducible rfl))
            try simp only [Act.put, List.setIfInBounds_toArray, List.set_cons_zero, List.set_cons_succ]
            refine take_op (i := 7) (d := some 37) (v := ?_) rfl rfl (by kernel_rfl) (by kernel_rfl) (by kernel_rfl) (fun _ _ _ h => h) (Or.inl ⟨by rfl, ?_⟩) (by assumption) ?_
            rotate_left
            · (intro w' hSw; (try dsimp only at hSw); obtain ⟨c0, c1, c2, c3, c4, c5⟩ := pk_cells hSw; go_simp; try (with_reducible rfl))
            try simp only [Act.put, List.setIfInBounds_toArray, List.set_cons_zero, List.set_cons_succ]
            refine take_op (i := 8) (d := some 38) (v := ?_) rfl rfl (by kernel_rfl) (by kernel_rfl) (by kernel_rfl) (fun _ _ _ h => h) (Or.inl ⟨by rfl, ?_⟩) (by assumption) ?_
            rotate_left
            · (intro w' hSw; (try dsimp only at hSw); obtain ⟨c0, c1, c2, c3, c4, c5⟩ := pk_cells hSw; go_simp; try (with_reducible rfl))
            try simp only [Act.put, List.setIfInBounds_toArray, List.set_cons_zero, List.set_cons_succ]
            refine wpAnyH_ready (rs := [10]) (by kernel_rfl) (by simp) ?_
            refine AllReadyH.cons rfl (fun K hK => ?_) AllReadyH.nil
            rw [if_pos (by rfl)]
            refine wp_st_row 24 _ _ rfl ba rfl _ rfl HA.out (by kernel_rfl) rfl (by simp [Value.oneCell']) (fun w7 hp7 hg7 => ?_)
            try simp only [Act.put, List.setIfInBounds_toArray, List.set_cons_zero, List.set_cons_succ]
            have HB7 := Lib.hid (below_own HD.out.bel (by have := HNE.out; omega) hg7)
            have htb := (hg7.block w.heap.size (row_lt HD.out.tb) (by have := HNE.out; simp; omega)).trans HD.out.tb
            clear hp7 hg7
            refine hK.out _ _ htb (fun hHeld => ?_)
            clear hK K
            try simp only [Act.put, List.setIfInBounds_toArray, List.set_cons_zero, List.set_cons_succ]
            refine take_op (i := 11) (d := some 6) (v := ?_) rfl rfl (by kernel_rfl) (by kernel_rfl) (by kernel_rfl) (fun _ _ _ h => h) (Or.inl ⟨by rfl, ?_⟩) (by assumption) ?_
            rotate_left
            · (intro w' hSw; (try dsimp only at hSw); obtain ⟨c0, c1, c2, c3, c4, c5⟩ := pk_cells hSw; go_simp; try (with_reducible rfl))
            try simp only [Act.put, List.setIfInBounds_toArray, List.set_cons_zero, List.set_cons_succ]
            refine wpAnyH_done (by kernel_rfl) ?_ _
            rcases HX.out x HX1.out with hE | ⟨hE, hz0⟩
            · rw [hE]
              go_wp2_with fail
              go_ret
              exact ⟨retI (by omega), HB7.out⟩
            · rw [hE]
              go_wp2_with fail
              go_ret
              exact ⟨retI (by omega), HB7.out⟩
        · go_simp
          have HA : Hid ((wd.alloc (.cells #[.int .i64 0, .int .i64 0, .int .i64 0, .int .i64 0, .string ⟨#[]⟩, .slice none 0 0] 24)).heap[wd.heap.size]? = some (.cells #[.int .i64 0, .int .i64 0, .int .i64 0, .int .i64 0, .string ⟨#[]⟩, .slice none 0 0] 24 (0, 0))) := heap_alloc_new _ _
          have HNE : Hid (w.heap.size < wd.heap.size) := row_lt HD.out.tb
          have HD := Lib.hid (HD.out.below ((Below.refl _ _).alloc (Nat.le_refl _) (.cells #[.int .i64 0, .int .i64 0, .int .i64 0, .int .i64 0, .string ⟨#[]⟩, .slice none 0 0] 24)))
          refine hK.out _ _ HD.out.tb (fun hHeld => ?_)
          clear hK K
          try simp only [Act.put, List.setIfInBounds_toArray, List.set_cons_zero, List.set_cons_succ]
          generalize wd.alloc (.cells #[.int .i64 0, .int .i64 0, .int .i64 0, .int .i64 0, .string ⟨#[]⟩, .slice none 0 0] 24) = w9 at *
          generalize wd.heap.size = ba at *
          refine wpAnyH_ready (rs := [4]) (by kernel_rfl) (by simp) ?_
          refine AllReadyH.cons rfl (fun K hK => ?_) AllReadyH.nil
          go_simp
          rw [show max (0 : Int) (512 - (z : Int)) = (((512 - z) : Nat) : Int) by omega]
          refine (reps_c (512 - z) (by omega) _).mono ?_
          rintro e w4 ⟨⟨x, rfl, hx⟩, hb⟩
          have HA := Lib.hid ((hb.block ba (row_lt HA.out)).trans HA.out)
          have HX1 := Lib.hid hx
          have HD := Lib.hid (HD.out.below hb)
          clear hb
          refine hK.out _ _ HD.out.tb (fun hHeld => ?_)
          clear hK K
          try simp only [Act.put, List.setIfInBounds_toArray, List.set_cons_zero, List.set_cons_succ]
          refine wpAnyH_ready (rs := [5]) (by kernel_rfl) (by simp) ?_
          refine AllReadyH.cons rfl (fun K hK => ?_) AllReadyH.nil
          go_simp
          refine (FL.out x (by have := HX1.out; omega) _ HD.out.it).mono ?_
          rintro e w5 ⟨⟨b0, b1, b2, b3, k, ao6, n6, c6, rfl⟩, hb⟩
          have HA := Lib.hid ((hb.block ba (row_lt HA.out)).trans HA.out)
          have HD := Lib.hid (HD.out.below hb)
          clear hb
          refine hK.out _ _ HD.out.tb (fun hHeld => ?_)
          clear hK K
          try simp only [Act.put, List.setIfInBounds_toArray, List.set_cons_zero, List.set_cons_succ]
          refine take_op (i := 6) (d := some 30) (v := ?_) rfl rfl (by kernel_rfl) (by kernel_rfl) (by kernel_rfl) (fun _ _ _ h => h) (Or.inl ⟨by rfl, ?_⟩) (by assumption) ?_
          rotate_left
          · (intro w' hSw; (try dsimp only at hSw); obtain ⟨c0, c1, c2, c3, c4, c5⟩ := pk_cells hSw; go_simp; try (with_reducible rfl))
          try simp only [Act.put, List.setIfInBounds_toArray, List.set_cons_zero, List.set_cons_succ]
          refine take_op (i := 7) (d := some 37) (v := ?_) rfl rfl (by kernel_rfl) (by kernel_rfl) (by kernel_rfl) (fun _ _ _ h => h) (Or.inl ⟨by rfl, ?_⟩) (by assumption) ?_
          rotate_left
          · (intro w' hSw; (try dsimp only at hSw); obtain ⟨c0, c1, c2, c3, c4, c5⟩ := pk_cells hSw; go_simp; try (with_reducible rfl))
          try simp only [Act.put, List.setIfInBounds_toArray, List.set_cons_zero, List.set_cons_succ]
          refine take_op (i := 8) (d := some 38) (v := ?_) rfl rfl (by kernel_rfl) (by kernel_rfl) (by kernel_rfl) (fun _ _ _ h => h) (Or.inl ⟨by rfl, ?_⟩) (by assumption) ?_
          rotate_left
          · (intro w' hSw; (try dsimp only at hSw); obtain ⟨c0, c1, c2, c3, c4, c5⟩ := pk_cells hSw; go_simp; try (with_reducible rfl))
          try simp only [Act.put, List.setIfInBounds_toArray, List.set_cons_zero, List.set_cons_succ]
          refine wpAnyH_ready (rs := [10]) (by kernel_rfl) (by simp) ?_
          refine AllReadyH.cons rfl (fun K hK => ?_) AllReadyH.nil
          rw [if_pos (by rfl)]
          refine wp_st_row 24 _ _ rfl ba rfl _ rfl HA.out (by kernel_rfl) rfl (by simp [Value.oneCell']) (fun w7 hp7 hg7 => ?_)
          try simp only [Act.put, List.setIfInBounds_toArray, List.set_cons_zero, List.set_cons_succ]
          have HB7 := Lib.hid (below_own HD.out.bel (by have := HNE.out; omega) hg7)
          have htb := (hg7.block w.heap.size (row_lt HD.out.tb) (by have := HNE.out; simp; omega)).trans HD.out.tb
          clear hp7 hg7
          refine hK.out _ _ htb (fun hHeld => ?_)
          clear hK K
          try simp only [Act.put, List.setIfInBounds_toArray, List.set_cons_zero, List.set_cons_succ]
          refine take_op (i := 11) (d := some 6) (v := ?_) rfl rfl (by kernel_rfl) (by kernel_rfl) (by kernel_rfl) (fun _ _ _ h => h) (Or.inl ⟨by rfl, ?_⟩) (by assumption) ?_
          rotate_left
          · (intro w' hSw; (try dsimp only at hSw); obtain ⟨c0, c1, c2, c3, c4, c5⟩ := pk_cells hSw; go_simp; try (with_reducible rfl))
          try simp only [Act.put, List.setIfInBounds_toArray, List.set_cons_zero, List.set_cons_succ]
          refine wpAnyH_done (by kernel_rfl) ?_ _
          rcases HX.out x HX1.out with hE | ⟨hE, hz0⟩
          · rw [hE]
            go_wp2_with fail
            go_ret
            exact ⟨retI (by omega), HB7.out⟩
          · rw [hE]
            go_wp2_with fail
            go_ret
            exact ⟨retI (by omega), HB7.out⟩
      · have e : n = len := by have := hn.1; omega
        by_cases hb : 255 ≤ len ∨ 510 < psz h S len
        · have HR : Hid (hroom 2 h S len n = 0) := by unfold Hid hroom; rw [if_neg (by omega), if_neg hnl, if_pos hb]
          have HP : Hid (proom h S len = -1) := by unfold Hid proom; rw [if_pos (by omega)]
          rw [HR.out]
          rw [HP.out] at FP
          subst e
          clear HR HP hn hM FL hb
          generalize psz h S n = z at *
          go_enter Try.func6, Try.ntmps6
          go_wp2_with fail
          generalize w.alloc (.cells #[.int .i64 a0, .int .i64 2, .int .i64 a2, .int .i64 a3, .string h, .slice ao n cap] 24) = wb at *
          clear c0 c1 c2 c3 c4 c5
          refine (FS.out wb H0.out.it).mono ?_
          rintro e w1 ⟨rfl, hb1⟩
          have H1 := Lib.hid (H0.out.below hb1)
          clear hb1 H0 FS
          obtain ⟨c0, c1, c2, c3, c4, c5⟩ := H1.out.cell
          go_wp2_with fail
          clear c0 c1 c2 c3 c4 c5
          refine (FZ.out w1 H1.out.it).mono ?_
          rintro e w2 ⟨rfl, hb2⟩
          have H2 := Lib.hid (H1.out.below hb2)
          clear hb2 H1 FZ
          obtain ⟨c0, c1, c2, c3, c4, c5⟩ := H2.out.cell
          go_wp2_with fail
          clear c0 c1 c2 c3 c4 c5
          refine (FP.out w2 H2.out.it).mono ?_
          rintro e w3 ⟨rfl, hb3⟩
          have H3 := Lib.hid (H2.out.below hb3)
          clear hb3 H2 FP
          go_wp2_with fail
          go_ret
          exact ⟨rfl, H3.out.bel⟩
        · have HR : Hid (hroom 2 h S len n = 510 - psz h S len) := by unfold Hid hroom; rw [if_neg (by omega), if_neg hnl, if_neg hb]
          have HP : Hid (proom h S len = ((510 - psz h S len : Nat) : Int)) := by unfold Hid proom; rw [if_neg (by omega)]; omega
          have HX : Hid (∀ x : ByteArray, x.size = 510 - psz h S len → layE h S len len x = 0) := by
            intro x hx
            rw [lay_end, if_pos (by omega)]
          rw [HR.out]
          rw [HP.out] at FP
          subst e
          clear HR HP hn hM hb
          generalize psz h S n = z at *
          obtain ⟨m, hm⟩ : ∃ m : Nat, m = 510 - z := ⟨_, rfl⟩
          rw [← hm] at FP HX ⊢
          have hm2 : m ≤ 510 := by omega
          clear hm
          go_enter Try.func6, Try.ntmps6
          go_wp2_with fail
          generalize w.alloc (.cells #[.int .i64 a0, .int .i64 2, .int .i64 a2, .int .i64 a3, .string h, .slice ao n cap] 24) = wb at *
          clear c0 c1 c2 c3 c4 c5
          refine (FS.out wb H0.out.it).mono ?_
          rintro e w1 ⟨rfl, hb1⟩
          have H1 := Lib.hid (H0.out.below hb1)
          clear hb1 H0 FS
          obtain ⟨c0, c1, c2, c3, c4, c5⟩ := H1.out.cell
          go_wp2_with fail
          clear c0 c1 c2 c3 c4 c5
          refine (FZ.out w1 H1.out.it).mono ?_
          rintro e w2 ⟨rfl, hb2⟩
          have H2 := Lib.hid (H1.out.below hb2)
          clear hb2 H1 FZ
          obtain ⟨c0, c1, c2, c3, c4, c5⟩ := H2.out.cell
          go_wp2_with fail
          clear c0 c1 c2 c3 c4 c5
          refine (FP.out w2 H2.out.it).mono ?_
          rintro e w3 ⟨rfl, hb3⟩
          have H3 := Lib.hid (H2.out.below hb3)
          clear hb3 H2 FP
          obtain ⟨c0, c1, c2, c3, c4, c5⟩ := H3.out.cell
          go_upto_region 9 with (fail)
          clear c0 c1 c2 c3 c4 c5
          have HD : Hid (PB w w3.drew w.heap.size a0 2 a2 a3 h ao n cap S) := H3.out.below (by exact (Below.refl _ _).drew)
          clear H3
          refine wp_region_held_drew (S := fun wx => wx.heap[w.heap.size]? = some (.cells #[.int .i64 a0, .int .i64 2, .int .i64 a2, .int .i64 a3, .string h, .slice ao n cap] 24 (0, 0))) (by kernel_rfl) (HD.out.tb) (fun hHeld => ?_)
          generalize w3.drew = wd at *
          refine take_op (i := 0) (d := some 31) (v := ?_) rfl rfl (by kernel_rfl) (by kernel_rfl) (by kernel_rfl) (fun _ _ _ h => h) (Or.inl ⟨by rfl, ?_⟩) (by assumption) ?_
          rotate_left
          · (intro w' hSw; (try dsimp only at hSw); obtain ⟨c0, c1, c2, c3, c4, c5⟩ := pk_cells hSw; go_simp; try (with_reducible rfl))
          try simp only [Act.put, List.setIfInBounds_toArray, List.set_cons_zero, List.set_cons_succ]
          refine take_op (i := 1) (d := some 32) (v := ?_) rfl rfl (by kernel_rfl) (by kernel_rfl) (by kernel_rfl) (fun _ _ _ h => h) (Or.inl ⟨by rfl, ?_⟩) (by assumption) ?_
          rotate_left
          · (intro w' hSw; (try dsimp only at hSw); obtain ⟨c0, c1, c2, c3, c4, c5⟩ := pk_cells hSw; go_simp; try (with_reducible rfl))
          try simp only [Act.put, List.setIfInBounds_toArray, List.set_cons_zero, List.set_cons_succ]
          refine take_op (i := 2) (d := some 33) (v := ?_) rfl rfl (by kernel_rfl) (by kernel_rfl) (by kernel_rfl) (fun _ _ _ h => h) (Or.inl ⟨by rfl, ?_⟩) (by assumption) ?_
          rotate_left
          · (intro w' hSw; (try dsimp only at hSw); obtain ⟨c0, c1, c2, c3, c4, c5⟩ := pk_cells hSw; go_simp; try (with_reducible rfl))
          try simp only [Act.put, List.setIfInBounds_toArray, List.set_cons_zero, List.set_cons_succ]
          refine take_op (i := 3) (d := some 34) (v := ?_) rfl rfl (by kernel_rfl) (by kernel_rfl) (by kernel_rfl) (fun _ _ _ h => h) (Or.inl ⟨by rfl, ?_⟩) (by assumption) ?_
          rotate_left
          · (intro w' hSw; (try dsimp only at hSw); obtain ⟨c0, c1, c2, c3, c4, c5⟩ := pk_cells hSw; go_simp; try (with_reducible rfl))
          try simp only [Act.put, List.setIfInBounds_toArray, List.set_cons_zero, List.set_cons_succ]
          refine wpAnyH_ready (rs := [4, 9]) (by kernel_rfl) (by simp) ?_
          refine AllReadyH.cons rfl (fun K hK => ?_) (AllReadyH.cons rfl (fun K hK => ?_) AllReadyH.nil)
          · go_simp
            refine (reps_c m (by omega) _).mono ?_
            rintro e w4 ⟨⟨x, rfl, hx⟩, hb⟩
            have HX1 := Lib.hid hx
            have HD := Lib.hid (HD.out.below hb)
            clear hb
            refine hK.out _ _ HD.out.tb (fun hHeld => ?_)
            clear hK K
            try simp only [Act.put, List.setIfInBounds_toArray, List.set_cons_zero, List.set_cons_succ]
            refine wpAnyH_ready (rs := [5, 9]) (by kernel_rfl) (by simp) ?_
            refine AllReadyH.cons rfl (fun K hK => ?_) (AllReadyH.cons rfl (fun K hK => ?_) AllReadyH.nil)
            · go_simp
              refine (FL.out x (by have := HX1.out; omega) _ HD.out.it).mono ?_
              rintro e w5 ⟨⟨b0, b1, b2, b3, k, ao6, n6, c6, rfl⟩, hb⟩
              have HD := Lib.hid (HD.out.below hb)
              clear hb
              refine hK.out _ _ HD.out.tb (fun hHeld => ?_)
              clear hK K
              try simp only [Act.put, List.setIfInBounds_toArray, List.set_cons_zero, List.set_cons_succ]
              refine take_op (i := 6) (d := some 30) (v := ?_) rfl rfl (by kernel_rfl) (by kernel_rfl) (by kernel_rfl) (fun _ _ _ h => h) (Or.inl ⟨by rfl, ?_⟩) (by assumption) ?_
              rotate_left
              · (intro w' hSw; (try dsimp only at hSw); obtain ⟨c0, c1, c2, c3, c4, c5⟩ := pk_cells hSw; go_simp; try (with_reducible rfl))
              try simp only [Act.put, List.setIfInBounds_toArray, List.set_cons_zero, List.set_cons_succ]
              refine take_op (i := 7) (d := some 37) (v := ?_) rfl rfl (by kernel_rfl) (by kernel_rfl) (by kernel_rfl) (fun _ _ _ h => h) (Or.inl ⟨by rfl, ?_⟩) (by assumption) ?_
              rotate_left
              · (intro w' hSw; (try dsimp only at hSw); obtain ⟨c0, c1, c2, c3, c4, c5⟩ := pk_cells hSw; go_simp; try (with_reducible rfl))
              try simp only [Act.put, List.setIfInBounds_toArray, List.set_cons_zero, List.set_cons_succ]
              refine take_op (i := 8) (d := some 38) (v := ?_) rfl rfl (by kernel_rfl) (by kernel_rfl) (by kernel_rfl) (fun _ _ _ h => h) (Or.inl ⟨by rfl, ?_⟩) (by assumption) ?_
              rotate_left
              · (intro w' hSw; (try dsimp only at hSw); obtain ⟨c0, c1, c2, c3, c4, c5⟩ := pk_cells hSw; go_simp; try (with_reducible rfl))
              try simp only [Act.put, List.setIfInBounds_toArray, List.set_cons_zero, List.set_cons_succ]
              refine wpAnyH_ready (rs := [9]) (by kernel_rfl) (by simp) ?_
              refine AllReadyH.cons rfl (fun K hK => ?_) AllReadyH.nil
              go_simp
              have HA : Hid ((w5.alloc (.cells #[.int .i64 0, .int .i64 0, .int .i64 0, .int .i64 0, .string ⟨#[]⟩, .slice none 0 0] 24)).heap[w5.heap.size]? = some (.cells #[.int .i64 0, .int .i64 0, .int .i64 0, .int .i64 0, .string ⟨#[]⟩, .slice none 0 0] 24 (0, 0))) := heap_alloc_new _ _
              have HNE : Hid (w.heap.size < w5.heap.size) := row_lt HD.out.tb
              have HD := Lib.hid (HD.out.below ((Below.refl _ _).alloc (Nat.le_refl _) (.cells #[.int .i64 0, .int .i64 0, .int .i64 0, .int .i64 0, .string ⟨#[]⟩, .slice none 0 0] 24)))
              refine hK.out _ _ HD.out.tb (fun hHeld => ?_)
              clear hK K
              try simp only [Act.put, List.setIfInBounds_toArray, List.set_cons_zero, List.set_cons_succ]
              generalize w5.alloc (.cells #[.int .i64 0, .int .i64 0, .int .i64 0, .int .i64 0, .string ⟨#[]⟩, .slice none 0 0] 24) = w9 at *
              generalize w5.heap.size = ba at *
              refine wpAnyH_ready (rs := [10]) (by kernel_rfl) (by simp) ?_
              refine AllReadyH.cons rfl (fun K hK => ?_) AllReadyH.nil
              rw [if_pos (by rfl)]
              refine wp_st_row 24 _ _ rfl ba rfl _ rfl HA.out (by kernel_rfl) rfl (by simp [Value.oneCell']) (fun w7 hp7 hg7 => ?_)
              try simp only [Act.put, List.setIfInBounds_toArray, List.set_cons_zero, List.set_cons_succ]
              have HB7 := Lib.hid (below_own HD.out.bel (by have := HNE.out; omega) hg7)
              have htb := (hg7.block w.heap.size (row_lt HD.out.tb) (by have := HNE.out; simp; omega)).trans HD.out.tb
              clear hp7 hg7
              refine hK.out _ _ htb (fun hHeld => ?_)
              clear hK K
              try simp only [Act.put, List.setIfInBounds_toArray, List.set_cons_zero, List.set_cons_succ]
              refine take_op (i := 11) (d := some 6) (v := ?_) rfl rfl (by kernel_rfl) (by kernel_rfl) (by kernel_rfl) (fun _ _ _ h => h) (Or.inl ⟨by rfl, ?_⟩) (by assumption) ?_
              rotate_left
              · (intro w' hSw; (try dsimp only at hSw); obtain ⟨c0, c1, c2, c3, c4, c5⟩ := pk_cells hSw; go_simp; try (with_reducible rfl))
              try simp only [Act.put, List.setIfInBounds_toArray, List.set_cons_zero, List.set_cons_succ]
              refine wpAnyH_done (by kernel_rfl) ?_ _
              rw [HX.out x HX1.out]
              go_wp2_with fail
              go_ret
              exact ⟨retI (by omega), HB7.out⟩
            · go_simp
              have HA : Hid ((w4.alloc (.cells #[.int .i64 0, .int .i64 0, .int .i64 0, .int .i64 0, .string ⟨#[]⟩, .slice none 0 0] 24)).heap[w4.heap.size]? = some (.cells #[.int .i64 0, .int .i64 0, .int .i64 0, .int .i64 0, .string ⟨#[]⟩, .slice none 0 0] 24 (0, 0))) := heap_alloc_new _ _
              have HNE : Hid (w.heap.size < w4.heap.size) := row_lt HD.out.tb
              have HD := Lib.hid (HD.out.below ((Below.refl _ _).alloc (Nat.le_refl _) (.cells #[.int .i64 0, .int .i64 0, .int .i64 0, .int .i64 0, .string ⟨#[]⟩, .slice none 0 0] 24)))
              refine hK.out _ _ HD.out.tb (fun hHeld => ?_)
              clear hK K
              try simp only [Act.put, List.setIfInBounds_toArray, List.set_cons_zero, List.set_cons_succ]
              generalize w4.alloc (.cells #[.int .i64 0, .int .i64 0, .int .i64 0, .int .i64 0, .string ⟨#[]⟩, .slice none 0 0] 24) = w9 at *
              generalize w4.heap.size = ba at *
              refine wpAnyH_ready (rs := [5]) (by kernel_rfl) (by simp) ?_
              refine AllReadyH.cons rfl (fun K hK => ?_) AllReadyH.nil
              go_simp
              refine (FL.out x (by have := HX1.out; omega) _ HD.out.it).mono ?_
              rintro e w5 ⟨⟨b0, b1, b2, b3, k, ao6, n6, c6, rfl⟩, hb⟩
              have HA := Lib.hid ((hb.block ba (row_lt HA.out)).trans HA.out)
              have HD := Lib.hid (HD.out.below hb)
              clear hb
              refine hK.out _ _ HD.out.tb (fun hHeld => ?_)
              clear hK K
              try simp only [Act.put, List.setIfInBounds_toArray, List.set_cons_zero, List.set_cons_succ]
              refine take_op (i := 6) (d := some 30) (v := ?_) rfl rfl (by kernel_rfl) (by kernel_rfl) (by kernel_rfl) (fun _ _ _ h => h) (Or.inl ⟨by rfl, ?_⟩) (by assumption) ?_
              rotate_left
              · (intro w' hSw; (try dsimp only at hSw); obtain ⟨c0, c1, c2, c3, c4, c5⟩ := pk_cells hSw; go_simp; try (with_reducible rfl))
              try simp only [Act.put, List.setIfInBounds_toArray, List.set_cons_zero, List.set_cons_succ]
              refine take_op (i := 7) (d := some 37) (v := ?_) rfl rfl (by kernel_rfl) (by kernel_rfl) (by kernel_rfl) (fun _ _ _ h => h) (Or.inl ⟨by rfl, ?_⟩) (by assumption) ?_
              rotate_left
              · (intro w' hSw; (try dsimp only at hSw); obtain ⟨c0, c1, c2, c3, c4, c5⟩ := pk_cells hSw; go_simp; try (with_reducible rfl))
              try simp only [Act.put, List.setIfInBounds_toArray, List.set_cons_zero, List.set_cons_succ]
              refine take_op (i := 8) (d := some 38) (v := ?_) rfl rfl (by kernel_rfl) (by kernel_rfl) (by kernel_rfl) (fun _ _ _ h => h) (Or.inl ⟨by rfl, ?_⟩) (by assumption) ?_
              rotate_left
              · (intro w' hSw; (try dsimp only at hSw); obtain ⟨c0, c1, c2, c3, c4, c5⟩ := pk_cells hSw; go_simp; try (with_reducible rfl))
              try simp only [Act.put, List.setIfInBounds_toArray, List.set_cons_zero, List.set_cons_succ]
              refine wpAnyH_ready (rs := [10]) (by kernel_rfl) (by simp) ?_
              refine AllReadyH.cons rfl (fun K hK => ?_) AllReadyH.nil
              rw [if_pos (by rfl)]
              refine wp_st_row 24 _ _ rfl ba rfl _ rfl HA.out (by kernel_rfl) rfl (by simp [Value.oneCell']) (fun w7 hp7 hg7 => ?_)
              try simp only [Act.put, List.setIfInBounds_toArray, List.set_cons_zero, List.set_cons_succ]
              have HB7 := Lib.hid (below_own HD.out.bel (by have := HNE.out; omega) hg7)
              have htb := (hg7.block w.heap.size (row_lt HD.out.tb) (by have := HNE.out; simp; omega)).trans HD.out.tb
              clear hp7 hg7
              refine hK.out _ _ htb (fun hHeld => ?_)
              clear hK K
              try simp only [Act.put, List.setIfInBounds_toArray, List.set_cons_zero, List.set_cons_succ]
              refine take_op (i := 11) (d := some 6) (v := ?_) rfl rfl (by kernel_rfl) (by kernel_rfl) (by kernel_rfl) (fun _ _ _ h => h) (Or.inl ⟨by rfl, ?_⟩) (by assumption) ?_
              rotate_left
              · (intro w' hSw; (try dsimp only at hSw); obtain ⟨c0, c1, c2, c3, c4, c5⟩ := pk_cells hSw; go_simp; try (with_reducible rfl))
              try simp only [Act.put, List.setIfInBounds_toArray, List.set_cons_zero, List.set_cons_succ]
              refine wpAnyH_done (by kernel_rfl) ?_ _
              rw [HX.out x HX1.out]
              go_wp2_with fail
              go_ret
              exact ⟨retI (by omega), HB7.out⟩
          · go_simp
            have HA : Hid ((wd.alloc (.cells #[.int .i64 0, .int .i64 0, .int .i64 0, .int .i64 0, .string ⟨#[]⟩, .slice none 0 0] 24)).heap[wd.heap.size]? = some (.cells #[.int .i64 0, .int .i64 0, .int .i64 0, .int .i64 0, .string ⟨#[]⟩, .slice none 0 0] 24 (0, 0))) := heap_alloc_new _ _
            have HNE : Hid (w.heap.size < wd.heap.size) := row_lt HD.out.tb
            have HD := Lib.hid (HD.out.below ((Below.refl _ _).alloc (Nat.le_refl _) (.cells #[.int .i64 0, .int .i64 0, .int .i64 0, .int .i64 0, .string ⟨#[]⟩, .slice none 0 0] 24)))
            refine hK.out _ _ HD.out.tb (fun hHeld => ?_)
            clear hK K
            try simp only [Act.put, List.setIfInBounds_toArray, List.set_cons_zero, List.set_cons_succ]
            generalize wd.alloc (.cells #[.int .i64 0, .int .i64 0, .int .i64 0, .int .i64 0, .string ⟨#[]⟩, .slice none 0 0] 24) = w9 at *
            generalize wd.heap.size = ba at *
            refine wpAnyH_ready (rs := [4]) (by kernel_rfl) (by simp) ?_
            refine AllReadyH.cons rfl (fun K hK => ?_) AllReadyH.nil
            go_simp
            refine (reps_c m (by omega) _).mono ?_
            rintro e w4 ⟨⟨x, rfl, hx⟩, hb⟩
            have HA := Lib.hid ((hb.block ba (row_lt HA.out)).trans HA.out)
            have HX1 := Lib.hid hx
            have HD := Lib.hid (HD.out.below hb)
            clear hb
            refine hK.out _ _ HD.out.tb (fun hHeld => ?_)
            clear hK K
            try simp only [Act.put, List.setIfInBounds_toArray, List.set_cons_zero, List.set_cons_succ]
            refine wpAnyH_ready (rs := [5]) (by kernel_rfl) (by simp) ?_
            refine AllReadyH.cons rfl (fun K hK => ?_) AllReadyH.nil
            go_simp
            refine (FL.out x (by have := HX1.out; omega) _ HD.out.it).mono ?_
            rintro e w5 ⟨⟨b0, b1, b2, b3, k, ao6, n6, c6, rfl⟩, hb⟩
            have HA := Lib.hid ((hb.block ba (row_lt HA.out)).trans HA.out)
            have HD := Lib.hid (HD.out.below hb)
            clear hb
            refine hK.out _ _ HD.out.tb (fun hHeld => ?_)
            clear hK K
            try simp only [Act.put, List.setIfInBounds_toArray, List.set_cons_zero, List.set_cons_succ]
            refine take_op (i := 6) (d := some 30) (v := ?_) rfl rfl (by kernel_rfl) (by kernel_rfl) (by kernel_rfl) (fun _ _ _ h => h) (Or.inl ⟨by rfl, ?_⟩) (by assumption) ?_
            rotate_left
            · (intro w' hSw; (try dsimp only at hSw); obtain ⟨c0, c1, c2, c3, c4, c5⟩ := pk_cells hSw; go_simp; try (with_reducible rfl))
            try simp only [Act.put, List.setIfInBounds_toArray, List.set_cons_zero, List.set_cons_succ]
            refine take_op (i := 7) (d := some 37) (v := ?_) rfl rfl (by kernel_rfl) (by kernel_rfl) (by kernel_rfl) (fun _ _ _ h => h) (Or.inl ⟨by rfl, ?_⟩) (by assumption) ?_
            rotate_left
            · (intro w' hSw; (try dsimp only at hSw); obtain ⟨c0, c1, c2, c3, c4, c5⟩ := pk_cells hSw; go_simp; try (with_reducible rfl))
            try simp only [Act.put, List.setIfInBounds_toArray, List.set_cons_zero, List.set_cons_succ]
            refine take_op (i := 8) (d := some 38) (v := ?_) rfl rfl (by kernel_rfl) (by kernel_rfl) (by kernel_rfl) (fun _ _ _ h => h) (Or.inl ⟨by rfl, ?_⟩) (by assumption) ?_
            rotate_left
            · (intro w' hSw; (try dsimp only at hSw); obtain ⟨c0, c1, c2, c3, c4, c5⟩ := pk_cells hSw; go_simp; try (with_reducible rfl))
            try simp only [Act.put, List.setIfInBounds_toArray, List.set_cons_zero, List.set_cons_succ]
            refine wpAnyH_ready (rs := [10]) (by kernel_rfl) (by simp) ?_
            refine AllReadyH.cons rfl (fun K hK => ?_) AllReadyH.nil
            rw [if_pos (by rfl)]
            refine wp_st_row 24 _ _ rfl ba rfl _ rfl HA.out (by kernel_rfl) rfl (by simp [Value.oneCell']) (fun w7 hp7 hg7 => ?_)
            try simp only [Act.put, List.setIfInBounds_toArray, List.set_cons_zero, List.set_cons_succ]
            have HB7 := Lib.hid (below_own HD.out.bel (by have := HNE.out; omega) hg7)
            have htb := (hg7.block w.heap.size (row_lt HD.out.tb) (by have := HNE.out; simp; omega)).trans HD.out.tb
            clear hp7 hg7
            refine hK.out _ _ htb (fun hHeld => ?_)
            clear hK K
            try simp only [Act.put, List.setIfInBounds_toArray, List.set_cons_zero, List.set_cons_succ]
            refine take_op (i := 11) (d := some 6) (v := ?_) rfl rfl (by kernel_rfl) (by kernel_rfl) (by kernel_rfl) (fun _ _ _ h => h) (Or.inl ⟨by rfl, ?_⟩) (by assumption) ?_
            rotate_left
            · (intro w' hSw; (try dsimp only at hSw); obtain ⟨c0, c1, c2, c3, c4, c5⟩ := pk_cells hSw; go_simp; try (with_reducible rfl))
            try simp only [Act.put, List.setIfInBounds_toArray, List.set_cons_zero, List.set_cons_succ]
            refine wpAnyH_done (by kernel_rfl) ?_ _
            rw [HX.out x HX1.out]
            go_wp2_with fail
            go_ret
            exact ⟨retI (by omega), HB7.out⟩
    · have HR : Hid (hroom a1 h S len n = 0) := by unfold Hid hroom; rw [if_pos (Or.inr (by omega))]
      rw [HR.out]
      subst ha
      clear HR hn hM
      go_enter Try.func6, Try.ntmps6
      go_wp2_with fail
      go_ret
      exact ⟨rfl, H0.out.bel⟩
  · have HR : Hid (hroom a1 h S len n = 0) := by unfold Hid hroom; rw [if_pos (Or.inl ha)]
    rw [HR.out]
    clear HR hn hM
    go_enter Try.func6, Try.ntmps6
    go_wp2_with fail
    go_ret
    exact ⟨rfl, H0.out.bel⟩
end Go.Proofs.Ytkjnjccjkjachaa
