/- The walk of HeapRoom. -/
import Derived.Test.YtkjnjccjkjachaaHpN
namespace Go.Proofs.Ytkjnjccjkjachaa
open Go.RowKit
set_option linter.unusedSimpArgs false
set_option linter.unusedVariables false
set_option maxRecDepth 100000

/-- Room is told to the byte. -/
theorem lay_room {h : ByteArray} {S : Nat → ByteArray} {len n : Nat} (hn : isFst S len n) {x : ByteArray} (hx : 0 < x.size) : layE h S len n x = 0 ↔ x.size ≤ hroom 2 h S len n := by
  unfold hroom
  by_cases hl : 255 < len
  · rw [if_pos (Or.inr hl)]
    rcases Nat.lt_or_ge n len with h1 | h1
    · rw [lay_free h1 (hn.2.2 h1), if_neg (by omega)]
      constructor <;> (intro q; omega)
    · have e : n = len := by have := hn.1; omega
      subst e
      rw [lay_end, if_neg (by omega)]
      constructor <;> (intro q; omega)
  · rw [if_neg (by simp; omega)]
    by_cases h1 : n < len
    · rw [if_pos h1, lay_free h1 (hn.2.2 h1)]
      split
      · constructor <;> (intro q; omega)
      · constructor <;> (intro q; omega)
    · have e : n = len := by have := hn.1; omega
      subst e
      rw [if_neg h1, lay_end]
      by_cases h2 : 255 ≤ n ∨ 510 < psz h S n
      · rw [if_pos h2, if_neg (by omega)]
        constructor <;> (intro q; omega)
      · rw [if_neg h2]
        split
        · constructor <;> (intro q; omega)
        · constructor <;> (intro q; omega)
theorem enc_pos (x y : Int) (f : Bool) (k v : ByteArray) : 0 < (⟨(encL x y f k v).toArray⟩ : ByteArray).size := by
  rw [mk_size]
  unfold encL
  simp
theorem insE_of {a1 : Int} {h : ByteArray} {S : Nat → ByteArray} {len n : Nat} {x y : Int} {f : Bool} {k v : ByteArray} (h1 : a1 = 2) (h2 : encok x y k v = true) (hn : isFst S len n) :
    insE a1 h S len n x y f k v = if (⟨(encL x y f k v).toArray⟩ : ByteArray).size ≤ hroom 2 h S len n then 0 else 121 := by
  unfold insE
  rw [if_neg (by simp [h1]), if_neg (by simp [h2])]
  by_cases hh : layE h S len n ⟨(encL x y f k v).toArray⟩ = 0
  · rw [if_pos hh, if_pos ((lay_room hn (enc_pos x y f k v)).1 hh)]
  · rw [if_neg hh, if_neg (fun e => hh ((lay_room hn (enc_pos x y f k v)).2 e))]

set_option maxHeartbeats 8000000 in
theorem heapRoom_w (a0 a1 a2 a3 : Int) (h : ByteArray) (ao : Option Addr) (len cap : Nat) (S : Nat → ByteArray) (key : ByteArray) (q : Int) (w : World) (hlen : len ≤ 8796093022000) (hM : Small h S len) (hs : StrsIn w ao len S) :
    Calls Try.prog 4 #[.agg #[.int .i64 a0, .int .i64 a1, .int .i64 a2, .int .i64 a3, .string h, .slice ao len cap], .string key, .int .i64 q] w fun e w' => e = .returned (.bool true) ∧ Below w.heap.size w w' := by
  have HS := Lib.hid hs
  have h0 := (Fr.refl w).alloc #[.int .i64 a0, .int .i64 a1, .int .i64 a2, .int .i64 a3, .string h, .slice ao len cap] 24
  obtain ⟨wc, hwc⟩ : ∃ wc, wc = w.alloc (.cells #[.int .i64 a0, .int .i64 a1, .int .i64 a2, .int .i64 a3, .string h, .slice ao len cap] 24) := ⟨_, rfl⟩
  obtain ⟨bt, hbt⟩ : ∃ bt, bt = w.heap.size := ⟨_, rfl⟩
  rw [← hwc, ← hbt] at h0
  have H1 := Lib.hid h0
  have HWC := Lib.hid hwc
  have HBT := Lib.hid hbt
  clear h0 hwc hbt hs
  have FA := Lib.hid awake_c
  by_cases hq : q < 0 ∨ 64 < q
  · go_enter Try.func4, Try.ntmps4
    go_upto_region 1 with (fail)
    rw [← HWC.out, ← HBT.out]
    clear HWC HBT
    rcases hq with hq | hq
    · go_wp2_with fail
      refine (FA.out _).mono ?_
      rintro e w2 ⟨rfl, hb2⟩
      have H2 := Lib.hid (H1.out.below hb2)
      clear hb2 H1
      go_wp2_with fail
      go_ret
      exact ⟨rfl, H2.out.bel⟩
    · have hq2 : ¬ q < 0 := by omega
      go_wp2_with fail
      refine (FA.out _).mono ?_
      rintro e w2 ⟨rfl, hb2⟩
      have H2 := Lib.hid (H1.out.below hb2)
      clear hb2 H1
      go_wp2_with fail
      go_ret
      exact ⟨rfl, H2.out.bel⟩
  · obtain ⟨N, rfl⟩ : ∃ N : Nat, q = N := ⟨q.toNat, by omega⟩
    have hN : N ≤ 64 := by omega
    clear hq
    obtain ⟨n, hn⟩ := fst_ex S len
    have FRm := Lib.hid (fun w' hh => room_c a0 a1 a2 a3 h ao len cap n S w' (by omega) hM hn hh)
    have FI := Lib.hid (fun z w' hh => ins_c a0 a1 a2 a3 h ao len cap S n 1 0 false key z 7 w' hlen hM hn hh)
    have HN := Lib.hid hn
    clear hn hM
    go_enter Try.func4, Try.ntmps4
    go_upto_region 1 with (fail)
    rw [← HWC.out, ← HBT.out]
    clear HWC HBT
    have hmk := run_make_row' (P := Try.prog) 46 5 (.int .u8 0) 1 Try.underlying46 Try.info_u8 rfl .i64 .i64 N (by omega) (by omega)
    have hnew := heap_alloc_new wc (.cells (madeCells #[.int .u8 0] N) 5)
    have hcv : (convert 46 9 (.slice (some ⟨wc.heap.size, 0, none⟩) N N)).run Try.prog (wc.alloc (.cells (madeCells #[.int .u8 0] N) 5)) = .ok (.string ⟨(List.replicate N (0 : UInt8)).toArray⟩) (wc.alloc (.cells (madeCells #[.int .u8 0] N) 5)) :=
      run_string_cells (P := Try.prog) _ 46 9 5 Try.underlying46 Try.underlying5 Try.underlying9 wc.heap.size N N (List.replicate N 0) (by simp) (fun j hj => by
        have hj' : j < N := by simpa using hj
        simp only [World.cell?, hnew]
        simp [madeCells, hj', Nat.mod_one])
    have HZ : Hid ((⟨(List.replicate N (0 : UInt8)).toArray⟩ : ByteArray).size = N) := by unfold Hid; rw [mk_size]; simp
    have ha : Below wc.heap.size wc (wc.alloc (.cells (madeCells #[.int .u8 0] N) 5)) := (Below.refl _ _).alloc (Nat.le_refl _) _
    have H2 := Lib.hid (H1.out.below ha)
    clear ha hnew
    obtain ⟨z, hz⟩ : ∃ z : ByteArray, z = ⟨(List.replicate N (0 : UInt8)).toArray⟩ := ⟨_, rfl⟩
    rw [← hz] at hcv HZ
    clear hz
    go_upto_region 4 with (fail)
    have H4 := Lib.hid (H2.out.alloc #[.int .i64 1, .int .i64 0, .bool false, .string key, .string z] 26)
    rw [show (wc.alloc (.cells (madeCells #[.int .u8 0] N) 5)).heap.size = wc.heap.size + 1 by simp] at H4
    clear hmk hcv H1 H2
    generalize (wc.alloc (.cells (madeCells #[.int .u8 0] N) 5)).alloc (.cells #[.int .i64 1, .int .i64 0, .bool false, .string key, .string z] 26) = w4 at *
    generalize wc.heap.size + 1 = bu at *
    obtain ⟨d0, d1, d2, d3, d4⟩ := tu_cell (H4.out.row (b := bu) (c := #[.int .i64 1, .int .i64 0, .bool false, .string key, .string z]) (t := 26) (by simp))
    have FIz := Lib.hid (FI.out z)
    clear FI
    by_cases he : encok 1 0 key z = true
    · have FE := Lib.hid (enc_yes 1 0 false key z w4 he)
      have HE := Lib.hid (fun e1 : a1 = 2 => insE_of (f := false) (h := h) (S := S) e1 he HN.out)
      obtain ⟨s, hs2⟩ : ∃ s : ByteArray, s = ⟨(encL 1 0 false key z).toArray⟩ := ⟨_, rfl⟩
      rw [← hs2] at FE HE FIz
      have hss : s.size ≤ 1000000 := by rw [hs2, mk_size, encL_len he]; have := encok_yes he; omega
      clear hs2 he
      go_wp2_with fail
      clear d0 d1 d2 d3 d4
      refine FE.out.mono ?_
      rintro e w5 ⟨rfl, hb5⟩
      have H5 := Lib.hid (H4.out.below hb5)
      clear hb5 H4 FE
      obtain ⟨c0, c1, c2, c3, c4, c5⟩ := pk_cells (H5.out.row (b := bt) (c := #[.int .i64 a0, .int .i64 a1, .int .i64 a2, .int .i64 a3, .string h, .slice ao len cap]) (t := 24) (by simp))
      by_cases ha1 : a1 = 2
      · subst ha1
        obtain ⟨d0, d1, d2, d3, d4⟩ := tu_cell (H5.out.row (b := bu) (c := #[.int .i64 1, .int .i64 0, .bool false, .string key, .string z]) (t := 26) (by simp))
        have HE2 := Lib.hid (HE.out rfl)
        clear HE
        generalize insE 2 h S len n 1 0 false key z = E at *
        obtain ⟨R, hR⟩ : ∃ R, R = hroom 2 h S len n := ⟨_, rfl⟩
        rw [← hR] at HE2 FRm
        have hRl : R ≤ 512 := by rw [hR]; unfold hroom; split <;> (try split) <;> (try split) <;> omega
        clear hR
        go_wp2_with fail
        clear c0 c1 c2 c3 c4 c5 d0 d1 d2 d3 d4
        refine (FIz.out w5 (HS.out.below H5.out.bel rfl)).mono ?_
        rintro e w6 ⟨kd, xd, pg, sl, da, rfl, _, hb6⟩
        have H6 := Lib.hid (H5.out.below hb6)
        clear hb6 H5 FIz
        have hnr : (w6.alloc (.cells #[.int .i64 0, .int .i64 0, .int .i64 0, .int .u8 0, .int .i64 0, .int .i64 0, .int .i64 0, .int .i64 0, .int .i64 0, .int .i64 0, .string ⟨#[]⟩, .slice none 0 0, .slice none 0 0, .slice none 0 0, .slice none 0 0, .slice none 0 0] 34)).heap[w6.heap.size]? = some (.cells #[.int .i64 0, .int .i64 0, .int .i64 0, .int .u8 0, .int .i64 0, .int .i64 0, .int .i64 0, .int .i64 0, .int .i64 0, .int .i64 0, .string ⟨#[]⟩, .slice none 0 0, .slice none 0 0, .slice none 0 0, .slice none 0 0, .slice none 0 0] 34 (0, 0)) := heap_alloc_new w6 _
        go_upto_region 8 with (refine wpList_st_row rfl 34 _ _ rfl w6.heap.size rfl _ rfl hnr (by kernel_rfl) rfl (by simp [Value.oneCell']) (fun w7 hp7 hg7 => ?_); have H7 := Lib.hid (H6.out.fresh hg7 hp7); clear hp7 hg7)
        clear hnr H6
        generalize w6.heap.size = br at *
        obtain ⟨c0, c1, c2, c3, c4, c5⟩ := pk_cells (H7.out.row (b := bt) (c := #[.int .i64 a0, .int .i64 2, .int .i64 a2, .int .i64 a3, .string h, .slice ao len cap]) (t := 24) (by simp))
        by_cases hsR : s.size ≤ R
        · obtain rfl : E = 0 := by rw [HE2.out, if_pos hsR]
          clear HE2
          go_wp2_with fail
          clear c0 c1 c2 c3 c4 c5
          refine (FRm.out w7 (HS.out.below H7.out.bel rfl)).mono ?_
          rintro e w8 ⟨rfl, hb8⟩
          have H8 := Lib.hid (H7.out.below hb8)
          clear hb8 H7 FRm
          go_wp2_with fail
          refine (FA.out _).mono ?_
          rintro e w9 ⟨rfl, hb9⟩
          have H9 := Lib.hid (H8.out.below hb9)
          clear hb9 H8
          go_wp2_with fail
          go_ret
          exact ⟨rfl, H9.out.bel⟩
        · obtain rfl : E = 121 := by rw [HE2.out, if_neg hsR]
          have hsR2 : R < s.size := by omega
          clear HE2
          go_wp2_with fail
          clear c0 c1 c2 c3 c4 c5
          refine (FRm.out w7 (HS.out.below H7.out.bel rfl)).mono ?_
          rintro e w8 ⟨rfl, hb8⟩
          have H8 := Lib.hid (H7.out.below hb8)
          clear hb8 H7 FRm
          go_wp2_with fail
          refine (FA.out _).mono ?_
          rintro e w9 ⟨rfl, hb9⟩
          have H9 := Lib.hid (H8.out.below hb9)
          clear hb9 H8
          go_wp2_with fail
          go_ret
          exact ⟨rfl, H9.out.bel⟩
      · have hr0 : hroom a1 h S len n = 0 := by unfold hroom; rw [if_pos (Or.inl ha1)]
        rw [hr0] at FRm
        have hbe : (a1 == 2) = false := beq_eq_false_iff_ne.2 ha1
        clear hr0 HE FIz
        go_wp2_with fail
        clear c0 c1 c2 c3 c4 c5
        refine (FRm.out w5 (HS.out.below H5.out.bel rfl)).mono ?_
        rintro e w8 ⟨rfl, hb8⟩
        have H8 := Lib.hid (H5.out.below hb8)
        clear hb8 H5 FRm
        go_wp2_with fail
        refine (FA.out _).mono ?_
        rintro e w9 ⟨rfl, hb9⟩
        have H9 := Lib.hid (H8.out.below hb9)
        clear hb9 H8
        go_wp2_with fail
        go_ret
        exact ⟨rfl, H9.out.bel⟩
    · have FE := Lib.hid (enc_no 1 0 false key z w4 he)
      clear he FIz
      go_wp2_with fail
      clear d0 d1 d2 d3 d4
      refine FE.out.mono ?_
      rintro e w5 ⟨rfl, hb5⟩
      have H5 := Lib.hid (H4.out.below hb5)
      clear hb5 H4 FE
      obtain ⟨c0, c1, c2, c3, c4, c5⟩ := pk_cells (H5.out.row (b := bt) (c := #[.int .i64 a0, .int .i64 a1, .int .i64 a2, .int .i64 a3, .string h, .slice ao len cap]) (t := 24) (by simp))
      by_cases ha1 : a1 = 2
      · subst ha1
        go_wp2_with fail
        clear c0 c1 c2 c3 c4 c5
        refine (FA.out _).mono ?_
        rintro e w9 ⟨rfl, hb9⟩
        have H9 := Lib.hid (H5.out.below hb9)
        clear hb9 H5
        go_wp2_with fail
        go_ret
        exact ⟨rfl, H9.out.bel⟩
      · have hr0 : hroom a1 h S len n = 0 := by unfold hroom; rw [if_pos (Or.inl ha1)]
        rw [hr0] at FRm
        have hbe : (a1 == 2) = false := beq_eq_false_iff_ne.2 ha1
        clear hr0
        go_wp2_with fail
        clear c0 c1 c2 c3 c4 c5
        refine (FRm.out w5 (HS.out.below H5.out.bel rfl)).mono ?_
        rintro e w8 ⟨rfl, hb8⟩
        have H8 := Lib.hid (H5.out.below hb8)
        clear hb8 H5 FRm
        go_wp2_with fail
        refine (FA.out _).mono ?_
        rintro e w9 ⟨rfl, hb9⟩
        have H9 := Lib.hid (H8.out.below hb9)
        clear hb9 H8
        go_wp2_with fail
        go_ret
        exact ⟨rfl, H9.out.bel⟩
end Go.Proofs.Ytkjnjccjkjachaa
