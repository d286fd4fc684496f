/- heap.Blank; heap.Mark where it goes well. -/
import Derived.Test.YtkjnjccjkjachaaHpL
import Derived.Test.YtkjnjccjkjachaaHpF
namespace Go.Proofs.Ytkjnjccjkjachaa
open Go.RowKit
set_option linter.unusedSimpArgs false
set_option linter.unusedVariables false
set_option maxRecDepth 100000

theorem blank_c (w : World) : Calls Try.prog 20 #[] w fun e w' => e = .returned (.agg #[.int .i64 0, .int .i64 2, .int .i64 0, .int .i64 0, .string ⟨#[]⟩, .slice none 0 0]) ∧ Below w.heap.size w w' := by
  go_enter Try.func20, Try.ntmps20
  have hnew : (w.alloc (.cells #[.int .i64 0, .int .i64 0, .int .i64 0, .int .i64 0, .string ⟨#[]⟩, .slice none 0 0] 24)).heap[w.heap.size]? = some (.cells #[.int .i64 0, .int .i64 0, .int .i64 0, .int .i64 0, .string ⟨#[]⟩, .slice none 0 0] 24 (0, 0)) := heap_alloc_new w _
  go_wp2_with (refine wpList_st_row rfl 24 _ _ rfl w.heap.size rfl _ rfl hnew (by kernel_rfl) rfl (by simp [Value.oneCell']) (fun w2 hp2 hg2 => ?_))
  refine ret_cell1 rfl w.heap.size _ _ _ _ rfl hp2 Try.underlying24 rfl (by kernel_rfl) rfl ?_
  exact ⟨rfl, below_own (W := w) ((Below.refl _ w).alloc (Nat.le_refl _) _) (Nat.le_refl _) hg2⟩

set_option maxHeartbeats 8000000 in
theorem mark_ok (a0 a2 a3 : Int) (h : ByteArray) (ao : Option Addr) (len cap n : Nat) (S : Nat → ByteArray) (pn own x y : Int) (f : Bool) (k v : ByteArray) (w : World) (hlen : len ≤ 8796093022000) (hM : Small h S len) (hs : StrsIn w ao len S) (hn : n < len)
    (hd : decV (S n) = some (x, y, f, k, v)) (ho1 : 1 ≤ own) (ho2 : own ≠ y) (hok : encok x own k v = true) (hl : layE h S len n ⟨(encL x own f k v).toArray⟩ = 0) :
    Calls Try.prog 21 #[.agg #[.int .i64 a0, .int .i64 2, .int .i64 a2, .int .i64 a3, .string h, .slice ao len cap], .int .i64 pn, .int .i64 n, .int .i64 own] w fun e w' => e = .returned (.tuple #[.agg #[.int .i64 0, .int .i64 0, .int .i64 0, .int .u8 2, .int .i64 own, .int .i64 pn, .int .i64 n, .int .i64 y, .int .i64 own, .int .i64 0, .string ⟨#[]⟩, .slice none 0 0, .slice none 0 0, .slice none 0 0, .slice none 0 0, .slice none 0 0], .int .i64 0]) ∧ Below w.heap.size w w' := by
  have F1 := Lib.hid (fun w' hh => at_yes a0 a2 a3 h ao len cap n S w' (by omega) hh hn)
  rw [hd] at F1
  unfold atRes at F1
  have F2 := Lib.hid (fun w' => enc_yes x own f k v w' hok)
  obtain ⟨s, hsd⟩ : ∃ s : ByteArray, s = ⟨(encL x own f k v).toArray⟩ := ⟨_, rfl⟩
  have hsz : s.size ≤ 140737488355328 := by
    rw [hsd, mk_size, encL_len hok]
    have := encok_yes hok
    omega
  rw [← hsd] at F2 hl
  have F3 := Lib.hid (fun w' hh => lay_c a0 2 a2 a3 h ao len cap n S s w' (by omega) hlen hM hsz hh)
  rw [hl] at F3
  have HS := Lib.hid hs
  obtain ⟨wc, bt, br, hwc, hbt, hbr, h1, hbb⟩ := Fr.new2 w #[.int .i64 a0, .int .i64 2, .int .i64 a2, .int .i64 a3, .string h, .slice ao len cap] #[.int .i64 0, .int .i64 0, .int .i64 0, .int .u8 0, .int .i64 0, .int .i64 0, .int .i64 0, .int .i64 0, .int .i64 0, .int .i64 0, .string ⟨#[]⟩, .slice none 0 0, .slice none 0 0, .slice none 0 0, .slice none 0 0, .slice none 0 0] 24 34
  have H1 := Lib.hid h1
  have HWC := Lib.hid hwc
  have HBT := Lib.hid hbt
  have HBR := Lib.hid hbr
  clear hwc hbt hbr h1 hs hM hd hok hl hsd hsz
  go_enter Try.func21, Try.ntmps21
  have c := pk_cells (H1.out.row (b := bt) (c := #[.int .i64 a0, .int .i64 2, .int .i64 a2, .int .i64 a3, .string h, .slice ao len cap]) (t := 24) (by simp))
  rw [HWC.out, HBT.out] at c
  obtain ⟨c0, c1, c2, c3, c4, c5⟩ := c
  go_wp2_with fail
  clear c0 c1 c2 c3 c4 c5
  rw [← HWC.out, ← HBR.out, ← HBT.out]
  clear HWC HBT HBR
  refine (F1.out wc (HS.out.below H1.out.bel rfl)).mono ?_
  rintro e w2 ⟨rfl, hb2⟩
  have H2 := Lib.hid (H1.out.below hb2)
  clear hb2 H1 F1
  have hnt : (w2.alloc (.cells #[.int .i64 0, .int .i64 0, .bool false, .string ⟨#[]⟩, .string ⟨#[]⟩] 26)).heap[w2.heap.size]? = some (.cells #[.int .i64 0, .int .i64 0, .bool false, .string ⟨#[]⟩, .string ⟨#[]⟩] 26 (0, 0)) := heap_alloc_new w2 _
  go_upto_region 4 with (refine wpList_st_row rfl 26 _ _ rfl w2.heap.size rfl _ rfl hnt (by kernel_rfl) rfl (by simp [Value.oneCell']) (fun w3 hp3 hg3 => ?_); have H3 := Lib.hid (H2.out.fresh hg3 hp3); clear hp3 hg3)
  have HBU : Hid (br < w2.heap.size) := row_lt (H2.out.row (b := br) (c := #[.int .i64 0, .int .i64 0, .int .i64 0, .int .u8 0, .int .i64 0, .int .i64 0, .int .i64 0, .int .i64 0, .int .i64 0, .int .i64 0, .string ⟨#[]⟩, .slice none 0 0, .slice none 0 0, .slice none 0 0, .slice none 0 0, .slice none 0 0]) (t := 34) (by simp))
  clear hnt H2
  generalize w2.heap.size = bu at *
  obtain ⟨d0, d1, d2, d3, d4⟩ := tu_cell (H3.out.row (b := bu) (c := #[.int .i64 x, .int .i64 y, .bool f, .string k, .string v]) (t := 26) (by simp))
  have hbe : (own == y) = false := beq_eq_false_iff_ne.2 ho2
  have hlt1 : ¬ own < 1 := by omega
  have hnr : (w3.alloc (.cells #[.int .i64 0, .int .i64 0, .int .i64 0, .int .u8 0, .int .i64 0, .int .i64 0, .int .i64 0, .int .i64 0, .int .i64 0, .int .i64 0, .string ⟨#[]⟩, .slice none 0 0, .slice none 0 0, .slice none 0 0, .slice none 0 0, .slice none 0 0] 34)).heap[w3.heap.size]? = some (.cells #[.int .i64 0, .int .i64 0, .int .i64 0, .int .u8 0, .int .i64 0, .int .i64 0, .int .i64 0, .int .i64 0, .int .i64 0, .int .i64 0, .string ⟨#[]⟩, .slice none 0 0, .slice none 0 0, .slice none 0 0, .slice none 0 0, .slice none 0 0] 34 (0, 0)) := heap_alloc_new w3 _
  go_upto_region 7 with (refine wpList_st_row rfl 34 _ _ rfl w3.heap.size rfl _ rfl hnr (by kernel_rfl) rfl (by simp [Value.oneCell']) (fun w4 hp4 hg4 => ?_); have H4 := Lib.hid (H3.out.fresh hg4 hp4); clear hp4 hg4)
  have HBV : Hid (bu < w3.heap.size) := row_lt (H3.out.row (b := bu) (c := #[.int .i64 x, .int .i64 y, .bool f, .string k, .string v]) (t := 26) (by simp))
  clear hnr H3 d0 d1 d2 d3 d4
  generalize w3.heap.size = bv at *
  obtain ⟨d0, d1, d2, d3, d4⟩ := tu_cell (H4.out.row (b := bu) (c := #[.int .i64 x, .int .i64 y, .bool f, .string k, .string v]) (t := 26) (by simp))
  have hfr : w4.frozen? ⟨bu, 1, none⟩ = false := frozen_of_row w4 bu 1 _ _ (H4.out.row (b := bu) (c := #[.int .i64 x, .int .i64 y, .bool f, .string k, .string v]) (t := 26) (by simp))
  go_upto_region 8 with (fail)
  have H5 : Hid (Fr w (w4.setCell ⟨bu, 1, none⟩ (.int .i64 own)) [(bu, #[.int .i64 x, .int .i64 own, .bool f, .string k, .string v], 26), (bv, #[.int .i64 0, .int .i64 0, .int .i64 0, .int .u8 2, .int .i64 own, .int .i64 pn, .int .i64 n, .int .i64 y, .int .i64 own, .int .i64 0, .string ⟨#[]⟩, .slice none 0 0, .slice none 0 0, .slice none 0 0, .slice none 0 0, .slice none 0 0], 34), (br, #[.int .i64 0, .int .i64 0, .int .i64 0, .int .u8 0, .int .i64 0, .int .i64 0, .int .i64 0, .int .i64 0, .int .i64 0, .int .i64 0, .string ⟨#[]⟩, .slice none 0 0, .slice none 0 0, .slice none 0 0, .slice none 0 0, .slice none 0 0], 34), (bt, #[.int .i64 a0, .int .i64 2, .int .i64 a2, .int .i64 a3, .string h, .slice ao len cap], 24)]) := H4.out.set (b := bu) (j := 1) (c := #[.int .i64 x, .int .i64 y, .bool f, .string k, .string v]) (.int .i64 own) (by simp) (by have := HBU.out; have := HBV.out; intro q hq; simp at hq; rcases hq with rfl | rfl | rfl <;> exact ⟨by simp, by simp; omega⟩)
  clear d0 d1 d2 d3 d4 hfr H4
  generalize w4.setCell ⟨bu, 1, none⟩ (.int .i64 own) = w5 at *
  obtain ⟨d0, d1, d2, d3, d4⟩ := tu_cell (H5.out.row (b := bu) (c := #[.int .i64 x, .int .i64 own, .bool f, .string k, .string v]) (t := 26) (by simp))
  go_wp2_with fail
  clear d0 d1 d2 d3 d4
  refine (F2.out w5).mono ?_
  rintro e w6 ⟨rfl, hb6⟩
  have H6 := Lib.hid (H5.out.below hb6)
  clear hb6 H5 F2
  obtain ⟨c0, c1, c2, c3, c4, c5⟩ := pk_cells (H6.out.row (b := bt) (c := #[.int .i64 a0, .int .i64 2, .int .i64 a2, .int .i64 a3, .string h, .slice ao len cap]) (t := 24) (by simp))
  go_wp2_with fail
  clear c0 c1 c2 c3 c4 c5
  refine (F3.out w6 (HS.out.below H6.out.bel rfl)).mono ?_
  rintro e w7 ⟨⟨b0, b1, b2, b3, q, ao5, n5, c5, rfl⟩, hb7⟩
  have H7 := Lib.hid (H6.out.below hb7)
  clear hb7 H6 F3
  have hnp : (w7.alloc (.cells #[.int .i64 0, .int .i64 0, .int .i64 0, .int .i64 0, .string ⟨#[]⟩, .slice none 0 0] 24)).heap[w7.heap.size]? = some (.cells #[.int .i64 0, .int .i64 0, .int .i64 0, .int .i64 0, .string ⟨#[]⟩, .slice none 0 0] 24 (0, 0)) := heap_alloc_new w7 _
  go_upto_region 14 with (refine wpList_st_row rfl 24 _ _ rfl w7.heap.size rfl _ rfl hnp (by kernel_rfl) rfl (by simp [Value.oneCell']) (fun w8 hp8 hg8 => ?_); have H8 := Lib.hid (H7.out.fresh hg8 hp8); clear hp8 hg8)
  clear hnp H7
  have hrow := H8.out.row (b := bv) (c := #[.int .i64 0, .int .i64 0, .int .i64 0, .int .u8 2, .int .i64 own, .int .i64 pn, .int .i64 n, .int .i64 y, .int .i64 own, .int .i64 0, .string ⟨#[]⟩, .slice none 0 0, .slice none 0 0, .slice none 0 0, .slice none 0 0, .slice none 0 0]) (t := 34) (by simp)
  have hr := H8.out.row (b := br) (c := #[.int .i64 0, .int .i64 0, .int .i64 0, .int .u8 0, .int .i64 0, .int .i64 0, .int .i64 0, .int .i64 0, .int .i64 0, .int .i64 0, .string ⟨#[]⟩, .slice none 0 0, .slice none 0 0, .slice none 0 0, .slice none 0 0, .slice none 0 0]) (t := 34) (by simp)
  have r0 : w8.cell? ⟨bv, 0, none⟩ = some (.int .i64 0) := by simp only [World.cell?, hrow]; rfl
  have r1 : w8.cell? ⟨bv, 1, none⟩ = some (.int .i64 0) := by simp only [World.cell?, hrow]; rfl
  have r2 : w8.cell? ⟨bv, 2, none⟩ = some (.int .i64 0) := by simp only [World.cell?, hrow]; rfl
  have r3 : w8.cell? ⟨bv, 3, none⟩ = some (.int .u8 2) := by simp only [World.cell?, hrow]; rfl
  have r4 : w8.cell? ⟨bv, 4, none⟩ = some (.int .i64 own) := by simp only [World.cell?, hrow]; rfl
  have r5 : w8.cell? ⟨bv, 5, none⟩ = some (.int .i64 pn) := by simp only [World.cell?, hrow]; rfl
  have r6 : w8.cell? ⟨bv, 6, none⟩ = some (.int .i64 n) := by simp only [World.cell?, hrow]; rfl
  have r7 : w8.cell? ⟨bv, 7, none⟩ = some (.int .i64 y) := by simp only [World.cell?, hrow]; rfl
  have r8 : w8.cell? ⟨bv, 8, none⟩ = some (.int .i64 own) := by simp only [World.cell?, hrow]; rfl
  have r9 : w8.cell? ⟨bv, 9, none⟩ = some (.int .i64 0) := by simp only [World.cell?, hrow]; rfl
  have r10 : w8.cell? ⟨bv, 10, none⟩ = some (.string ⟨#[]⟩) := by simp only [World.cell?, hrow]; rfl
  have r11 : w8.cell? ⟨bv, 11, none⟩ = some (.slice none 0 0) := by simp only [World.cell?, hrow]; rfl
  have r12 : w8.cell? ⟨bv, 12, none⟩ = some (.slice none 0 0) := by simp only [World.cell?, hrow]; rfl
  have r13 : w8.cell? ⟨bv, 13, none⟩ = some (.slice none 0 0) := by simp only [World.cell?, hrow]; rfl
  have r14 : w8.cell? ⟨bv, 14, none⟩ = some (.slice none 0 0) := by simp only [World.cell?, hrow]; rfl
  have r15 : w8.cell? ⟨bv, 15, none⟩ = some (.slice none 0 0) := by simp only [World.cell?, hrow]; rfl
  clear hrow
  go_wp2_with (refine wpList_st_row rfl 34 _ _ rfl br rfl _ rfl hr (by kernel_rfl) rfl (by simp [Value.oneCell']) (fun w9 hp9 hg9 => ?_); have P9 := Lib.hid hp9; have B9 := Lib.hid (below_own H8.out.bel (H8.out.rows (br, #[.int .i64 0, .int .i64 0, .int .i64 0, .int .u8 0, .int .i64 0, .int .i64 0, .int .i64 0, .int .i64 0, .int .i64 0, .int .i64 0, .string ⟨#[]⟩, .slice none 0 0, .slice none 0 0, .slice none 0 0, .slice none 0 0, .slice none 0 0], 34) (by simp)).2 hg9); clear hp9 hg9)
  refine ret_cell rfl br _ _ _ _ rfl P9.out Try.underlying34 rfl (by kernel_rfl) rfl ?_
  exact ⟨rfl, B9.out⟩
end Go.Proofs.Ytkjnjccjkjachaa
