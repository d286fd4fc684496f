/- heap.Insert: the record that lays a version. -/
import Derived.Test.YtkjnjccjkjachaaHpG
namespace Go.Proofs.Ytkjnjccjkjachaa
open Go.RowKit
set_option linter.unusedSimpArgs false
set_option linter.unusedVariables false
set_option maxRecDepth 100000

/-- Blocks of the call's own: what each holds. -/
structure Fr (W wx : World) (l : List (Nat × Array Value × TypeId)) : Prop where
  rows : ∀ q ∈ l, wx.heap[q.1]? = some (.cells q.2.1 q.2.2 (0, 0)) ∧ W.heap.size ≤ q.1
  bel : Below W.heap.size W wx
theorem Fr.refl (W : World) : Fr W W [] := ⟨fun q hq => by simp at hq, Below.refl _ _⟩
theorem Fr.below {W wx w' : World} {l : List (Nat × Array Value × TypeId)} (H : Fr W wx l) (hb : Below wx.heap.size wx w') : Fr W w' l :=
  ⟨fun q hq => ⟨(hb.block q.1 (row_lt (H.rows q hq).1)).trans (H.rows q hq).1, (H.rows q hq).2⟩, H.bel.trans (hb.mono H.bel.size)⟩
theorem Fr.alloc {W wx : World} {l : List (Nat × Array Value × TypeId)} (H : Fr W wx l) (c : Array Value) (t : TypeId) : Fr W (wx.alloc (.cells c t)) ((wx.heap.size, c, t) :: l) := by
  have ha : Below wx.heap.size wx (wx.alloc (.cells c t)) := (Below.refl _ _).alloc (Nat.le_refl _) _
  refine ⟨fun q hq => ?_, (H.below ha).bel⟩
  rcases List.mem_cons.1 hq with rfl | hq
  · exact ⟨heap_alloc_new _ _, H.bel.size⟩
  · exact (H.below ha).rows q hq
theorem Fr.own {W wx w' : World} {l : List (Nat × Array Value × TypeId)} (H : Fr W wx l) {b : Nat} {c : Array Value} {t : TypeId} (hg : wx.grownBy w' (some b)) (hp : w'.heap[b]? = some (.cells c t (0, 0))) (hne : ∀ q ∈ l, q.1 ≠ b) (hb : W.heap.size ≤ b) : Fr W w' ((b, c, t) :: l) := by
  refine ⟨fun q hq => ?_, below_own H.bel hb hg⟩
  rcases List.mem_cons.1 hq with rfl | hq
  · exact ⟨hp, hb⟩
  · exact ⟨(hg.block q.1 (row_lt (H.rows q hq).1) (by have := hne q hq; simp; exact this)).trans (H.rows q hq).1, (H.rows q hq).2⟩
/-- A new block, written whole. -/
theorem Fr.fresh {W wx w' : World} {l : List (Nat × Array Value × TypeId)} (H : Fr W wx l) {o : Obj} {c : Array Value} {t : TypeId} (hg : (wx.alloc o).grownBy w' (some wx.heap.size)) (hp : w'.heap[wx.heap.size]? = some (.cells c t (0, 0))) : Fr W w' ((wx.heap.size, c, t) :: l) := by
  have ha : Below wx.heap.size wx (wx.alloc o) := (Below.refl _ _).alloc (Nat.le_refl _) _
  exact (H.below ha).own hg hp (fun q hq => by have := row_lt (H.rows q hq).1; omega) H.bel.size
theorem Fr.row {W wx : World} {l : List (Nat × Array Value × TypeId)} (H : Fr W wx l) {b : Nat} {c : Array Value} {t : TypeId} (h : (b, c, t) ∈ l) : wx.heap[b]? = some (.cells c t (0, 0)) := (H.rows _ h).1
theorem Fr.sub {W wx : World} {l m : List (Nat × Array Value × TypeId)} (H : Fr W wx l) (h : ∀ q ∈ m, q ∈ l) : Fr W wx m := ⟨fun q hq => H.rows q (h q hq), H.bel⟩
theorem Fr.new3 (w : World) (c1 c2 c3 : Array Value) (t1 t2 t3 : TypeId) : ∃ wc b1 b2 b3, wc = ((w.alloc (.cells c1 t1)).alloc (.cells c2 t2)).alloc (.cells c3 t3) ∧ b1 = w.heap.size ∧ b2 = w.heap.size + 1 ∧ b3 = w.heap.size + 1 + 1 ∧ Fr w wc [(b3, c3, t3), (b2, c2, t2), (b1, c1, t1)] ∧ b1 < b2 ∧ b2 < b3 := by
  have H := (((Fr.refl w).alloc c1 t1).alloc c2 t2).alloc c3 t3
  rw [show (w.alloc (.cells c1 t1)).heap.size = w.heap.size + 1 by simp, show ((w.alloc (.cells c1 t1)).alloc (.cells c2 t2)).heap.size = w.heap.size + 1 + 1 by simp] at H
  exact ⟨_, _, _, _, rfl, rfl, rfl, rfl, H, by omega, by omega⟩
theorem Fr.new2 (w : World) (c1 c2 : Array Value) (t1 t2 : TypeId) : ∃ wc b1 b2, wc = (w.alloc (.cells c1 t1)).alloc (.cells c2 t2) ∧ b1 = w.heap.size ∧ b2 = w.heap.size + 1 ∧ Fr w wc [(b2, c2, t2), (b1, c1, t1)] ∧ b1 < b2 := by
  have H := ((Fr.refl w).alloc c1 t1).alloc c2 t2
  rw [show (w.alloc (.cells c1 t1)).heap.size = w.heap.size + 1 by simp] at H
  exact ⟨_, _, _, rfl, rfl, rfl, H, by omega⟩
theorem tu_cell {w : World} {b : Nat} {x y : Int} {f : Bool} {k v : ByteArray} (h : w.heap[b]? = some (.cells #[.int .i64 x, .int .i64 y, .bool f, .string k, .string v] 26 (0, 0))) :
    w.cell? ⟨b, 0, none⟩ = some (.int .i64 x) ∧ w.cell? ⟨b, 1, none⟩ = some (.int .i64 y) ∧ w.cell? ⟨b, 2, none⟩ = some (.bool f) ∧ w.cell? ⟨b, 3, none⟩ = some (.string k) ∧ w.cell? ⟨b, 4, none⟩ = some (.string v) := by
  refine ⟨?_, ?_, ?_, ?_, ?_⟩ <;> (simp only [World.cell?, h]; rfl)

/-- The error of an Insert. -/
def insE (a1 : Int) (h : ByteArray) (S : Nat → ByteArray) (len n : Nat) (x y : Int) (f : Bool) (k v : ByteArray) : Int :=
  if a1 ≠ 2 then 120 else if ¬ encok x y k v = true then 110 else if layE h S len n ⟨(encL x y f k v).toArray⟩ = 0 then 0 else 121
/-- What is told by an Insert. -/
def IOut (w : World) (E : Int) (n : Nat) (s : ByteArray) (x pn : Int) (e : Ending) (w' : World) : Prop :=
  ∃ (kd xd pg sl : Int) (da : ByteArray), e = .returned (.tuple #[.agg #[.int .i64 0, .int .i64 0, .int .i64 0, .int .u8 kd, .int .i64 xd, .int .i64 pg, .int .i64 sl, .int .i64 0, .int .i64 0, .int .i64 0, .string da, .slice none 0 0, .slice none 0 0, .slice none 0 0, .slice none 0 0, .slice none 0 0], .int .i64 E]) ∧ (E = 0 → kd = 1 ∧ xd = x ∧ pg = pn ∧ sl = n ∧ da = s) ∧ Below w.heap.size w w'

set_option maxHeartbeats 4000000 in
theorem ins_c (a0 a1 a2 a3 : Int) (h : ByteArray) (ao : Option Addr) (len cap : Nat) (S : Nat → ByteArray) (n : Nat) (x y : Int) (f : Bool) (k v : ByteArray) (pn : Int) (w : World) (hlen : len ≤ 8796093022000) (hM : Small h S len) (hn : isFst S len n) (hs : StrsIn w ao len S) :
    Calls Try.prog 7 #[.agg #[.int .i64 a0, .int .i64 a1, .int .i64 a2, .int .i64 a3, .string h, .slice ao len cap], .int .i64 pn, .agg #[.int .i64 x, .int .i64 y, .bool f, .string k, .string v]] w fun e w' => IOut w (insE a1 h S len n x y f k v) n ⟨(encL x y f k v).toArray⟩ x pn e w' := by
  obtain ⟨E, hE⟩ : ∃ E : Int, E = insE a1 h S len n x y f k v := ⟨_, rfl⟩
  rw [← hE]
  have HE := Lib.hid hE
  have HS := Lib.hid hs
  obtain ⟨wc, bt, bu, br, hwc, hbt, hbu, hbr, h1, ho1, ho2⟩ := Fr.new3 w #[.int .i64 a0, .int .i64 a1, .int .i64 a2, .int .i64 a3, .string h, .slice ao len cap] #[.int .i64 x, .int .i64 y, .bool f, .string k, .string v] #[.int .i64 0, .int .i64 0, .int .i64 0, .int .u8 0, .int .i64 0, .int .i64 0, .int .i64 0, .int .i64 0, .int .i64 0, .int .i64 0, .string ⟨#[]⟩, .slice none 0 0, .slice none 0 0, .slice none 0 0, .slice none 0 0, .slice none 0 0] 24 26 34
  have H1 := Lib.hid h1
  have HWC := Lib.hid hwc
  have HBT := Lib.hid hbt
  have HBU := Lib.hid hbu
  have HBR := Lib.hid hbr
  have HO := Lib.hid (And.intro ho1 ho2)
  clear hwc hbt hbu hbr h1 hs hE ho1 ho2
  obtain ⟨s, hsd⟩ : ∃ s : ByteArray, s = ⟨(encL x y f k v).toArray⟩ := ⟨_, rfl⟩
  rw [← hsd]
  have HSD := Lib.hid hsd
  clear hsd
  have HN := Lib.hid hn
  have HM := Lib.hid hM
  clear hn hM
  go_enter Try.func7, Try.ntmps7
  have c := pk_cells (H1.out.row (b := bt) (c := #[.int .i64 a0, .int .i64 a1, .int .i64 a2, .int .i64 a3, .string h, .slice ao len cap]) (t := 24) (by simp))
  have d := tu_cell (H1.out.row (b := bu) (c := #[.int .i64 x, .int .i64 y, .bool f, .string k, .string v]) (t := 26) (by simp))
  rw [HWC.out, HBT.out] at c
  rw [HWC.out, HBU.out] at d
  obtain ⟨c0, c1, c2, c3, c4, c5⟩ := c
  obtain ⟨d0, d1, d2, d3, d4⟩ := d
  go_upto_region 1 with (fail)
  rw [← HWC.out, ← HBR.out, ← HBU.out, ← HBT.out]
  rw [← HWC.out, ← HBT.out] at c0 c1 c2 c3 c4 c5
  rw [← HWC.out, ← HBU.out] at d0 d1 d2 d3 d4
  clear HWC HBT HBR HBU
  by_cases h1 : a1 = 2
  · subst h1
    have F1n := Lib.hid (enc_no x y f k v wc)
    have F1y := Lib.hid (enc_yes x y f k v wc)
    by_cases h2 : encok x y k v = true
    · have FS := Lib.hid (fun w' hh => slot_c a0 2 a2 a3 h ao len cap n S w' (by omega) hh HN.out)
      have hsz : s.size ≤ 140737488355328 := by
        rw [HSD.out, mk_size, encL_len h2]
        have := encok_yes h2
        omega
      have FL := Lib.hid (fun w' hh => lay_c a0 2 a2 a3 h ao len cap n S s w' HN.out.1 hlen HM.out hsz hh)
      have HE2 : Hid (E = if layE h S len n s = 0 then 0 else 121) := by unfold Hid; rw [HE.out, HSD.out]; unfold insE; rw [if_neg (by simp), if_neg (by simp [h2])]
      clear HE hsz
      have F1 := Lib.hid (F1y.out h2)
      rw [← HSD.out] at F1
      clear F1n F1y h2
      go_wp2_with fail
      clear c0 c1 c2 c3 c4 c5 d0 d1 d2 d3 d4
      refine F1.out.mono ?_
      rintro e w2 ⟨rfl, hb2⟩
      have H2 := Lib.hid (H1.out.below hb2)
      clear hb2 H1 F1
      obtain ⟨c0, c1, c2, c3, c4, c5⟩ := pk_cells (H2.out.row (b := bt) (c := #[.int .i64 a0, .int .i64 2, .int .i64 a2, .int .i64 a3, .string h, .slice ao len cap]) (t := 24) (by simp))
      go_wp2_with fail
      clear c0 c1 c2 c3 c4 c5
      refine (FS.out w2 (HS.out.below H2.out.bel rfl)).mono ?_
      rintro e w3 ⟨rfl, hb3⟩
      have H3 := Lib.hid (H2.out.below hb3)
      clear hb3 H2 FS
      obtain ⟨c0, c1, c2, c3, c4, c5⟩ := pk_cells (H3.out.row (b := bt) (c := #[.int .i64 a0, .int .i64 2, .int .i64 a2, .int .i64 a3, .string h, .slice ao len cap]) (t := 24) (by simp))
      go_wp2_with fail
      clear c0 c1 c2 c3 c4 c5
      refine (FL.out w3 (HS.out.below H3.out.bel rfl)).mono ?_
      rintro e w4 ⟨⟨b0, b1, b2, b3, q, ao5, n5, c5, rfl⟩, hb4⟩
      have H4 := Lib.hid (H3.out.below hb4)
      clear hb4 H3 FL
      generalize layE h S len n s = L at *
      have hnew : (w4.alloc (.cells #[.int .i64 0, .int .i64 0, .int .i64 0, .int .i64 0, .string ⟨#[]⟩, .slice none 0 0] 24)).heap[w4.heap.size]? = some (.cells #[.int .i64 0, .int .i64 0, .int .i64 0, .int .i64 0, .string ⟨#[]⟩, .slice none 0 0] 24 (0, 0)) := heap_alloc_new w4 _
      by_cases hL : L = 0
      · obtain rfl : E = 0 := by rw [HE2.out, if_pos hL]
        subst hL
        clear HE2
        go_wp2_with (first
          | (refine wpList_st_row rfl 24 _ _ rfl w4.heap.size rfl _ rfl hnew (by kernel_rfl) rfl (by simp [Value.oneCell']) (fun w5 hp5 hg5 => ?_); have H5 := Lib.hid (H4.out.fresh hg5 hp5); (obtain ⟨d0, d1, d2, d3, d4⟩ := tu_cell (H5.out.row (b := bu) (c := #[.int .i64 x, .int .i64 y, .bool f, .string k, .string v]) (t := 26) (by simp))); have hr5 := (H5.out.row (b := br) (c := #[.int .i64 0, .int .i64 0, .int .i64 0, .int .u8 0, .int .i64 0, .int .i64 0, .int .i64 0, .int .i64 0, .int .i64 0, .int .i64 0, .string ⟨#[]⟩, .slice none 0 0, .slice none 0 0, .slice none 0 0, .slice none 0 0, .slice none 0 0]) (t := 34) (by simp)); clear hp5 hg5)
          | (refine wpList_st_row rfl 34 _ _ rfl br rfl _ rfl hr5 (by kernel_rfl) rfl (by simp [Value.oneCell']) (fun w6 hp6 hg6 => ?_); have P6 := Lib.hid hp6; have B6 := Lib.hid (below_own H5.out.bel (H5.out.rows (br, #[.int .i64 0, .int .i64 0, .int .i64 0, .int .u8 0, .int .i64 0, .int .i64 0, .int .i64 0, .int .i64 0, .int .i64 0, .int .i64 0, .string ⟨#[]⟩, .slice none 0 0, .slice none 0 0, .slice none 0 0, .slice none 0 0, .slice none 0 0], 34) (by simp)).2 hg6); clear hp6 hg6))
        refine ret_cell rfl br _ _ _ _ rfl P6.out Try.underlying34 rfl (by kernel_rfl) rfl ?_
        exact ⟨1, x, pn, n, s, rfl, fun _ => ⟨rfl, rfl, rfl, rfl, rfl⟩, B6.out⟩
      · obtain rfl : E = 121 := by rw [HE2.out, if_neg hL]
        clear HE2
        have hL1 : (L != 0) = true := by rw [bne_iff_ne]; exact hL
        go_wp2_with (first
          | (refine wpList_st_row rfl 24 _ _ rfl w4.heap.size rfl _ rfl hnew (by kernel_rfl) rfl (by simp [Value.oneCell']) (fun w5 hp5 hg5 => ?_); have H5 := Lib.hid (H4.out.fresh hg5 hp5); have hr5 := (H5.out.row (b := br) (c := #[.int .i64 0, .int .i64 0, .int .i64 0, .int .u8 0, .int .i64 0, .int .i64 0, .int .i64 0, .int .i64 0, .int .i64 0, .int .i64 0, .string ⟨#[]⟩, .slice none 0 0, .slice none 0 0, .slice none 0 0, .slice none 0 0, .slice none 0 0]) (t := 34) (by simp)); clear hp5 hg5)
          | (refine wpList_st_row rfl 34 _ _ rfl br rfl _ rfl hr5 (by kernel_rfl) rfl (by simp [Value.oneCell']) (fun w6 hp6 hg6 => ?_); have P6 := Lib.hid hp6; have B6 := Lib.hid (below_own H5.out.bel (H5.out.rows (br, #[.int .i64 0, .int .i64 0, .int .i64 0, .int .u8 0, .int .i64 0, .int .i64 0, .int .i64 0, .int .i64 0, .int .i64 0, .int .i64 0, .string ⟨#[]⟩, .slice none 0 0, .slice none 0 0, .slice none 0 0, .slice none 0 0, .slice none 0 0], 34) (by simp)).2 hg6); clear hp6 hg6))
        refine ret_cell rfl br _ _ _ _ rfl P6.out Try.underlying34 rfl (by kernel_rfl) rfl ?_
        exact ⟨0, 0, 0, 0, ⟨#[]⟩, rfl, fun e => absurd e (by decide), B6.out⟩
    · obtain rfl : E = 110 := by rw [HE.out]; unfold insE; rw [if_neg (by simp), if_pos h2]
      have F1 := Lib.hid (F1n.out h2)
      clear HE F1n F1y h2
      go_wp2_with fail
      clear c0 c1 c2 c3 c4 c5 d0 d1 d2 d3 d4
      refine F1.out.mono ?_
      rintro e w2 ⟨rfl, hb2⟩
      have H2 := Lib.hid (H1.out.below hb2)
      clear hb2 H1 F1
      have hr2 := (H2.out.row (b := br) (c := #[.int .i64 0, .int .i64 0, .int .i64 0, .int .u8 0, .int .i64 0, .int .i64 0, .int .i64 0, .int .i64 0, .int .i64 0, .int .i64 0, .string ⟨#[]⟩, .slice none 0 0, .slice none 0 0, .slice none 0 0, .slice none 0 0, .slice none 0 0]) (t := 34) (by simp))
      go_wp2_with (refine wpList_st_row rfl 34 _ _ rfl br rfl _ rfl hr2 (by kernel_rfl) rfl (by simp [Value.oneCell']) (fun w6 hp6 hg6 => ?_); have P6 := Lib.hid hp6; have B6 := Lib.hid (below_own H2.out.bel (H2.out.rows (br, #[.int .i64 0, .int .i64 0, .int .i64 0, .int .u8 0, .int .i64 0, .int .i64 0, .int .i64 0, .int .i64 0, .int .i64 0, .int .i64 0, .string ⟨#[]⟩, .slice none 0 0, .slice none 0 0, .slice none 0 0, .slice none 0 0, .slice none 0 0], 34) (by simp)).2 hg6); clear hp6 hg6)
      refine ret_cell rfl br _ _ _ _ rfl P6.out Try.underlying34 rfl (by kernel_rfl) rfl ?_
      exact ⟨0, 0, 0, 0, ⟨#[]⟩, rfl, fun e => absurd e (by decide), B6.out⟩
  · obtain rfl : E = 120 := by rw [HE.out]; unfold insE; rw [if_pos h1]
    clear HE
    have hr2 := (H1.out.row (b := br) (c := #[.int .i64 0, .int .i64 0, .int .i64 0, .int .u8 0, .int .i64 0, .int .i64 0, .int .i64 0, .int .i64 0, .int .i64 0, .int .i64 0, .string ⟨#[]⟩, .slice none 0 0, .slice none 0 0, .slice none 0 0, .slice none 0 0, .slice none 0 0]) (t := 34) (by simp))
    go_wp2_with (refine wpList_st_row rfl 34 _ _ rfl br rfl _ rfl hr2 (by kernel_rfl) rfl (by simp [Value.oneCell']) (fun w6 hp6 hg6 => ?_); have P6 := Lib.hid hp6; have B6 := Lib.hid (below_own H1.out.bel (H1.out.rows (br, #[.int .i64 0, .int .i64 0, .int .i64 0, .int .u8 0, .int .i64 0, .int .i64 0, .int .i64 0, .int .i64 0, .int .i64 0, .int .i64 0, .string ⟨#[]⟩, .slice none 0 0, .slice none 0 0, .slice none 0 0, .slice none 0 0, .slice none 0 0], 34) (by simp)).2 hg6); clear hp6 hg6)
    refine ret_cell rfl br _ _ _ _ rfl P6.out Try.underlying34 rfl (by kernel_rfl) rfl ?_
    exact ⟨0, 0, 0, 0, ⟨#[]⟩, rfl, fun e => absurd e (by decide), B6.out⟩
end Go.Proofs.Ytkjnjccjkjachaa
