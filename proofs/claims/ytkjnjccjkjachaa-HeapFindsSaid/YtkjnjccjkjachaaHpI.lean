/- strings.Builder's writer at this program: the shelf's contract over the numbers of strings.Repeat's closure. -/
import Derived.Test.YtkjnjccjkjachaaHpH
import Derived.Test.YtkjnjccjkjachaaBitsA
namespace Go.Proofs.Ytkjnjccjkjachaa
open Go.RowKit
set_option linter.unusedSimpArgs false
set_option maxRecDepth 100000

theorem lays166 : Go.Proofs.Lays.n166 Try.prog Try.lays105_ren :=
  { mixed := Try.lays105.mixed, f166 := Try.lays105.f166, f240 := Try.lays105.f240, f276 := Try.lays105.f276,
    t0 := Try.lays105.t0, a0 := Try.lays105.a0, z0 := Try.lays105.z0, v0 := Try.lays105.v0,
    t3 := Try.lays105.t3, a3 := Try.lays105.a3, z3 := Try.lays105.z3, v3 := Try.lays105.v3,
    t4 := Try.lays105.t4, a4 := Try.lays105.a4, z4 := Try.lays105.z4, v4 := Try.lays105.v4,
    t9 := Try.lays105.t9, a9 := Try.lays105.a9, z9 := Try.lays105.z9, v9 := Try.lays105.v9,
    t20 := Try.lays105.t20, a20 := Try.lays105.a20, z20 := Try.lays105.z20, v20 := Try.lays105.v20,
    t37 := Try.lays105.t37, a37 := Try.lays105.a37, z37 := Try.lays105.z37, v37 := Try.lays105.v37,
    t70 := Try.lays105.t70, a70 := Try.lays105.a70, z70 := Try.lays105.z70, v70 := Try.lays105.v70,
    t72 := Try.lays105.t72, a72 := Try.lays105.a72, z72 := Try.lays105.z72, v72 := Try.lays105.v72,
    t75 := Try.lays105.t75, a75 := Try.lays105.a75, z75 := Try.lays105.z75, v75 := Try.lays105.v75,
    t164 := Try.lays105.t164, a164 := Try.lays105.a164, z164 := Try.lays105.z164, v164 := Try.lays105.v164 }
theorem write_c (B b : Nat) (bs : List Value) (s : ByteArray) (w : World) (h : Lib.IsBuilderF 64 5 B b bs w) (hlen : bs.length + s.size ≤ 140737488355328) (hBw : B ≤ w.heap.size) :
    Calls Try.prog 23 #[.pointer (some ⟨b, 0, none⟩), .string s] w fun e w' => e = .returned (.tuple #[.int .i64 s.size, .nilIface]) ∧ (Lib.BuilderAtF 64 5 B b (.pointer (some ⟨b, 0, none⟩)) (bs ++ Lib.strCells s) w' ∧ Below B w w') :=
  Any.Builder_WriteString_f lays166 Try.Builder_Extra_105 B b bs s w h hlen hBw
theorem isb_below {T e : TypeId} {B b : Nat} {bs : List Value} {w w' : World} (h : Lib.IsBuilderF T e B b bs w) (hb : Below w.heap.size w w') : Lib.IsBuilderF T e B b bs w' := by
  rcases h with h | h
  · have hl := h.lt
    obtain ⟨hB, v, hbk, ho, hne⟩ := h
    exact .inl ⟨hB, v, (hb.block b hl).trans hbk, ho.kept (grown_of hb) (by cases v.ownBlock <;> simp), hne⟩
  · have hl := h.lt
    obtain ⟨hB, v, hbk, ho, hne⟩ := h
    exact .inr ⟨hB, v, (hb.block b hl).trans hbk, ho.kept (grown_of hb) (by cases v.ownBlock <;> simp), hne⟩

/-- While a page is being written. -/
structure EN (W wx : World) (bt bb : Nat) (m0 m1 m2 m3 : Nat) (h : ByteArray) (ao : Option Addr) (len cap : Nat) (S : Nat → ByteArray) (bs : List Value) : Prop where
  tb : wx.heap[bt]? = some (.cells #[.int .i64 m0, .int .i64 m1, .int .i64 m2, .int .i64 m3, .string h, .slice ao len cap] 24 (0, 0))
  i0 : StrsIn W ao len S
  ib : Lib.IsBuilderF 64 5 bb bb bs wx
  bel : Below W.heap.size W wx
  n0 : bt < bb
  n2 : W.heap.size ≤ bt
  sz : bb ≤ wx.heap.size
theorem EN.it {W wx : World} {bt bb m0 m1 m2 m3 : Nat} {h : ByteArray} {ao : Option Addr} {len cap : Nat} {S : Nat → ByteArray} {bs : List Value} (H : EN W wx bt bb m0 m1 m2 m3 h ao len cap S bs) : StrsIn wx ao len S := H.i0.below H.bel rfl
theorem EN.below {W wx w' : World} {bt bb m0 m1 m2 m3 : Nat} {h : ByteArray} {ao : Option Addr} {len cap : Nat} {S : Nat → ByteArray} {bs : List Value} (H : EN W wx bt bb m0 m1 m2 m3 h ao len cap S bs) (hb : Below wx.heap.size wx w') : EN W w' bt bb m0 m1 m2 m3 h ao len cap S bs :=
  ⟨(hb.block bt (row_lt H.tb)).trans H.tb, H.i0, isb_below H.ib hb, H.bel.trans (hb.mono H.bel.size), H.n0, H.n2, Nat.le_trans H.sz hb.size⟩
theorem EN.write {W wx w' : World} {bt bb m0 m1 m2 m3 : Nat} {h : ByteArray} {ao : Option Addr} {len cap : Nat} {S : Nat → ByteArray} {bs bs' : List Value} (H : EN W wx bt bb m0 m1 m2 m3 h ao len cap S bs) (hb : Below bb wx w') (hi : Lib.IsBuilderF 64 5 bb bb bs' w') : EN W w' bt bb m0 m1 m2 m3 h ao len cap S bs' :=
  ⟨(hb.block bt H.n0).trans H.tb, H.i0, hi, H.bel.trans (hb.mono (by have := H.n0; have := H.n2; omega)), H.n0, H.n2, Nat.le_trans H.sz hb.size⟩
theorem big_sz (n k : Nat) (hn : n ≤ 9223372036854775807) (h1 : 1 ≤ k) (h8 : k ≤ 8) : ∃ z : ByteArray, z.size = k ∧ ∀ w, Calls Try.prog 24 #[.int .i64 n, .int .i64 k] w fun e w' => e = .returned (.string z) ∧ Below w.heap.size w w' :=
  ⟨⟨(bigL n k).toArray⟩, by rw [mk_size]; simp [bigL], fun w => big_yes n k w hn h1 h8⟩

theorem rep_sz (c : Nat) (hc : c ≤ 508) : ∃ z : ByteArray, z.size = c ∧ ∀ w, Calls Try.prog 19 #[.string ⟨#[0]⟩, .int .i64 c] w fun e w' => e = .returned (.string z) ∧ Below w.heap.size w w' :=
  ⟨⟨(Lib.repeatL (ByteArray.data ⟨#[0]⟩).toList c).toArray⟩, by rw [mk_size, Lib.repeatL_length]; show c * 1 = c; omega, fun w => Try.strings_Repeat ⟨#[0]⟩ c w (by omega) (by show 1 * c ≤ 140737488355328; omega)⟩
theorem cells_add {W wx : World} {bt bb m0 m1 m2 m3 : Nat} {h : ByteArray} {ao : Option Addr} {len cap : Nat} {S : Nat → ByteArray} {l : List UInt8} {s : ByteArray} {n m : Nat} (hl : l.length = n) (H : EN W wx bt bb m0 m1 m2 m3 h ao len cap S (Lib.byteCells l ++ Lib.strCells s)) (hm : n + s.size = m) :
    ∃ l' : List UInt8, l'.length = m ∧ EN W wx bt bb m0 m1 m2 m3 h ao len cap S (Lib.byteCells l') := by
  refine ⟨l ++ s.data.toList, ?_, ?_⟩
  · rw [List.length_append, hl, ← hm]; rfl
  · have e : Lib.byteCells (l ++ s.data.toList) = Lib.byteCells l ++ Lib.strCells s := by simp [Lib.byteCells, Lib.strCells]
    rw [e]; exact H
theorem itot_mono (S : Nat → ByteArray) {k n : Nat} (h : k ≤ n) : itot S k ≤ itot S n := by
  induction n with
  | zero => rw [Nat.le_zero.1 h]; exact Nat.le_refl _
  | succ n ih =>
    rcases Nat.lt_or_ge n k with h1 | h1
    · rw [show k = n + 1 by omega]; exact Nat.le_refl _
    · have := ih h1
      show _ ≤ itot S n + (2 + (S n).size)
      omega

set_option maxHeartbeats 16000000 in
theorem encode_yes (m0 m1 m2 m3 : Nat) (h : ByteArray) (ao : Option Addr) (len cap : Nat) (S : Nat → ByteArray) (w : World) (q0 : m0 ≤ 9223372036854775807) (q1 : 1 ≤ m1 ∧ m1 ≤ 3) (q2 : m2 ≤ 255) (q3 : m3 ≤ 4294967295) (q4 : h.size ≤ 255) (q5 : okfit h S len = true) (hlen : len ≤ 9223372036854775807) (hM : Small h S len) (hs : StrsIn w ao len S) :
    Calls Try.prog 9 #[.agg #[.int .i64 m0, .int .i64 m1, .int .i64 m2, .int .i64 m3, .string h, .slice ao len cap]] w fun e w' => (∃ s, e = .returned (.tuple #[.string s, .int .i64 0])) ∧ Below w.heap.size w w' := by
  obtain ⟨wb, hwb⟩ : ∃ wb, wb = w.alloc (.cells #[.int .i64 m0, .int .i64 m1, .int .i64 m2, .int .i64 m3, .string h, .slice ao len cap] 24) := ⟨_, rfl⟩
  obtain ⟨bt, hbt⟩ : ∃ bt, bt = w.heap.size := ⟨_, rfl⟩
  have hb := (Below.refl w.heap.size w).alloc (Nat.le_refl _) (.cells #[.int .i64 m0, .int .i64 m1, .int .i64 m2, .int .i64 m3, .string h, .slice ao len cap] 24)
  rw [← hwb] at hb
  have HB := Lib.hid hb
  have HS := Lib.hid hs
  have HP : Hid (wb.heap[bt]? = some (.cells #[.int .i64 m0, .int .i64 m1, .int .i64 m2, .int .i64 m3, .string h, .slice ao len cap] 24 (0, 0))) := by rw [hwb, hbt]; exact heap_alloc_new w _
  have HLT : Hid (w.heap.size ≤ bt) := by rw [hbt]; exact Nat.le_refl _
  have HWB := Lib.hid hwb
  have HBT := Lib.hid hbt
  have hok : len ≤ 255 ∧ psz h S len ≤ 512 := by simpa [okfit] using q5
  have HT : Hid (20 + h.size + itot S len ≤ 512) := hok.2
  have hl255 := hok.1
  have F := Lib.hid (fun w' hh => fits_p m0 m1 m2 m3 h ao len cap S w' hlen hM hh)
  rw [q5] at F
  obtain ⟨z1, hz1, C1⟩ := big_sz m0 8 q0 (by omega) (by omega)
  obtain ⟨z2, hz2, C2⟩ := big_sz m1 1 (by omega) (by omega) (by omega)
  obtain ⟨z3, hz3, C3⟩ := big_sz m2 1 (by omega) (by omega) (by omega)
  obtain ⟨z4, hz4, C4⟩ := big_sz m3 4 (by omega) (by omega) (by omega)
  obtain ⟨z5, hz5, C5⟩ := big_sz len 1 (by omega) (by omega) (by omega)
  obtain ⟨z6, hz6, C6⟩ := big_sz h.size 1 (by omega) (by omega) (by omega)
  have D1 := Lib.hid C1
  have D2 := Lib.hid C2
  have D3 := Lib.hid C3
  have D4 := Lib.hid C4
  have D5 := Lib.hid C5
  have D6 := Lib.hid C6
  clear C1 C2 C3 C4 C5 C6 hwb hbt hb hs hM q5 hok
  go_enter Try.func9, Try.ntmps9
  have c := pk_cells HP.out
  rw [HWB.out, HBT.out] at c
  obtain ⟨c0, c1, c2, c3, c4, c5⟩ := c
  have hmin : ¬ (if (m3 : Int) < (if m2 < m0 then (m2 : Int) else (m0 : Int)) then (m3 : Int) else if m2 < m0 then (m2 : Int) else (m0 : Int)) < 0 := by split <;> split <;> omega
  go_upto_region 2 with (fail)
  generalize (if (m3 : Int) < (if m2 < m0 then (m2 : Int) else (m0 : Int)) then (m3 : Int) else if m2 < m0 then (m2 : Int) else (m0 : Int)) = mm at *
  go_wp2_with fail
  clear c0 c1 c2 c3 c4 c5 hmin
  rw [← HWB.out, ← HBT.out]
  clear HWB HBT
  refine (F.out wb (HS.out.below HB.out rfl)).mono ?_
  rintro e w1 ⟨rfl, hb1⟩
  have HP1 : Hid (w1.heap[bt]? = some (.cells #[.int .i64 m0, .int .i64 m1, .int .i64 m2, .int .i64 m3, .string h, .slice ao len cap] 24 (0, 0))) := (hb1.block bt (row_lt HP.out)).trans HP.out
  have HB1 := Lib.hid (HB.out.trans (hb1.mono HB.out.size))
  have HE0 : Hid (EN w (w1.alloc (.cells #[.pointer none, .slice none 0 0] 64)) bt w1.heap.size m0 m1 m2 m3 h ao len cap S []) := by
    have ha : Below w1.heap.size w1 (w1.alloc (.cells #[.pointer none, .slice none 0 0] 64)) := (Below.refl _ w1).alloc (Nat.le_refl _) _
    exact ⟨(ha.block bt (row_lt HP1.out)).trans HP1.out, HS.out, Lib.IsBuilderF.of (Lib.fresh_isBuilder _ _ w1), HB1.out.trans (ha.mono HB1.out.size), row_lt HP1.out, HLT.out, by simp⟩
  clear hb1 HS HP HB HP1 HB1 HLT F
  go_upto_region 11 with (fail)
  generalize w1.alloc (.cells #[.pointer none, .slice none 0 0] 64) = w2 at *
  generalize w1.heap.size = bb at *
  have HE0d : Hid (EN w w2.drew bt bb m0 m1 m2 m3 h ao len cap S []) := HE0.out.below (by exact (Below.refl _ _).drew)
  go_cut [51] (fun _ wx => Hid (∃ l : List UInt8, l.length = 14 ∧ EN w wx bt bb m0 m1 m2 m3 h ao len cap S (Lib.byteCells l)))
  case first =>
    refine wp_region_held_drew (S := fun w' => ∃ bs, EN w w' bt bb m0 m1 m2 m3 h ao len cap S bs) (by kernel_rfl) ⟨_, HE0d.out⟩ (fun hHeld => ?_)
    clear HE0
    have HE := Lib.hid HE0d.out
    clear HE0d
    refine take_op (i := 0) (d := some 36) (v := ?_) rfl rfl (by kernel_rfl) (by kernel_rfl) (by kernel_rfl) (fun _ _ _ h => h) (Or.inl ⟨by rfl, ?_⟩) (by assumption) ?_
    rotate_left
    · (intro w' hSw; (try dsimp only at hSw); obtain ⟨bs, hEn⟩ := hSw; obtain ⟨c0, c1, c2, c3, c4, c5⟩ := pk_cells hEn.tb; go_simp; try (with_reducible rfl))
    try simp only [Act.put, List.setIfInBounds_toArray, List.set_cons_zero, List.set_cons_succ]
    refine take_op (i := 1) (d := some 37) (v := ?_) rfl rfl (by kernel_rfl) (by kernel_rfl) (by kernel_rfl) (fun _ _ _ h => h) (Or.inl ⟨by rfl, ?_⟩) (by assumption) ?_
    rotate_left
    · (intro w' hSw; (try dsimp only at hSw); obtain ⟨bs, hEn⟩ := hSw; obtain ⟨c0, c1, c2, c3, c4, c5⟩ := pk_cells hEn.tb; go_simp; try (with_reducible rfl))
    try simp only [Act.put, List.setIfInBounds_toArray, List.set_cons_zero, List.set_cons_succ]
    refine take_op (i := 3) (d := some 39) (v := ?_) rfl rfl (by kernel_rfl) (by kernel_rfl) (by kernel_rfl) (fun _ _ _ h => h) (Or.inl ⟨by rfl, ?_⟩) (by assumption) ?_
    rotate_left
    · (intro w' hSw; (try dsimp only at hSw); obtain ⟨bs, hEn⟩ := hSw; obtain ⟨c0, c1, c2, c3, c4, c5⟩ := pk_cells hEn.tb; go_simp; try (with_reducible rfl))
    try simp only [Act.put, List.setIfInBounds_toArray, List.set_cons_zero, List.set_cons_succ]
    refine take_op (i := 4) (d := some 40) (v := ?_) rfl rfl (by kernel_rfl) (by kernel_rfl) (by kernel_rfl) (fun _ _ _ h => h) (Or.inl ⟨by rfl, ?_⟩) (by assumption) ?_
    rotate_left
    · (intro w' hSw; (try dsimp only at hSw); obtain ⟨bs, hEn⟩ := hSw; obtain ⟨c0, c1, c2, c3, c4, c5⟩ := pk_cells hEn.tb; go_simp; try (with_reducible rfl))
    try simp only [Act.put, List.setIfInBounds_toArray, List.set_cons_zero, List.set_cons_succ]
    refine take_op (i := 7) (d := some 43) (v := ?_) rfl rfl (by kernel_rfl) (by kernel_rfl) (by kernel_rfl) (fun _ _ _ h => h) (Or.inl ⟨by rfl, ?_⟩) (by assumption) ?_
    rotate_left
    · (intro w' hSw; (try dsimp only at hSw); obtain ⟨bs, hEn⟩ := hSw; obtain ⟨c0, c1, c2, c3, c4, c5⟩ := pk_cells hEn.tb; go_simp; try (with_reducible rfl))
    try simp only [Act.put, List.setIfInBounds_toArray, List.set_cons_zero, List.set_cons_succ]
    refine take_op (i := 8) (d := some 44) (v := ?_) rfl rfl (by kernel_rfl) (by kernel_rfl) (by kernel_rfl) (fun _ _ _ h => h) (Or.inl ⟨by rfl, ?_⟩) (by assumption) ?_
    rotate_left
    · (intro w' hSw; (try dsimp only at hSw); obtain ⟨bs, hEn⟩ := hSw; obtain ⟨c0, c1, c2, c3, c4, c5⟩ := pk_cells hEn.tb; go_simp; try (with_reducible rfl))
    try simp only [Act.put, List.setIfInBounds_toArray, List.set_cons_zero, List.set_cons_succ]
    refine take_op (i := 11) (d := some 47) (v := ?_) rfl rfl (by kernel_rfl) (by kernel_rfl) (by kernel_rfl) (fun _ _ _ h => h) (Or.inl ⟨by rfl, ?_⟩) (by assumption) ?_
    rotate_left
    · (intro w' hSw; (try dsimp only at hSw); obtain ⟨bs, hEn⟩ := hSw; obtain ⟨c0, c1, c2, c3, c4, c5⟩ := pk_cells hEn.tb; go_simp; try (with_reducible rfl))
    try simp only [Act.put, List.setIfInBounds_toArray, List.set_cons_zero, List.set_cons_succ]
    refine take_op (i := 12) (d := some 48) (v := ?_) rfl rfl (by kernel_rfl) (by kernel_rfl) (by kernel_rfl) (fun _ _ _ h => h) (Or.inl ⟨by rfl, ?_⟩) (by assumption) ?_
    rotate_left
    · (intro w' hSw; (try dsimp only at hSw); obtain ⟨bs, hEn⟩ := hSw; obtain ⟨c0, c1, c2, c3, c4, c5⟩ := pk_cells hEn.tb; go_simp; try (with_reducible rfl))
    try simp only [Act.put, List.setIfInBounds_toArray, List.set_cons_zero, List.set_cons_succ]
    refine wpAnyH_ready (rs := [2]) (by kernel_rfl) (by simp) ?_
    refine AllReadyH.cons rfl (fun K hK => ?_) AllReadyH.nil
    go_simp
    refine (D1.out _).mono ?_
    rintro e wn ⟨rfl, hbn⟩
    have HE := Lib.hid (HE.out.below hbn)
    clear hbn
    refine hK.out _ _ ⟨_, HE.out⟩ (fun hHeld => ?_)
    clear hK K
    try simp only [Act.put, List.setIfInBounds_toArray, List.set_cons_zero, List.set_cons_succ]
    refine wpAnyH_ready (rs := [5]) (by kernel_rfl) (by simp) ?_
    refine AllReadyH.cons rfl (fun K hK => ?_) AllReadyH.nil
    go_simp
    refine (D2.out _).mono ?_
    rintro e wn ⟨rfl, hbn⟩
    have HE := Lib.hid (HE.out.below hbn)
    clear hbn
    refine hK.out _ _ ⟨_, HE.out⟩ (fun hHeld => ?_)
    clear hK K
    try simp only [Act.put, List.setIfInBounds_toArray, List.set_cons_zero, List.set_cons_succ]
    refine take_op (i := 6) (d := some 42) (v := ?_) rfl rfl (by kernel_rfl) (by kernel_rfl) (by kernel_rfl) (fun _ _ _ h => h) (Or.inl ⟨by rfl, ?_⟩) (by assumption) ?_
    rotate_left
    · (intro w' hSw; (try dsimp only at hSw); go_simp; try (with_reducible rfl))
    try simp only [Act.put, List.setIfInBounds_toArray, List.set_cons_zero, List.set_cons_succ]
    refine wpAnyH_ready (rs := [9]) (by kernel_rfl) (by simp) ?_
    refine AllReadyH.cons rfl (fun K hK => ?_) AllReadyH.nil
    go_simp
    refine (D3.out _).mono ?_
    rintro e wn ⟨rfl, hbn⟩
    have HE := Lib.hid (HE.out.below hbn)
    clear hbn
    refine hK.out _ _ ⟨_, HE.out⟩ (fun hHeld => ?_)
    clear hK K
    try simp only [Act.put, List.setIfInBounds_toArray, List.set_cons_zero, List.set_cons_succ]
    refine take_op (i := 10) (d := some 46) (v := ?_) rfl rfl (by kernel_rfl) (by kernel_rfl) (by kernel_rfl) (fun _ _ _ h => h) (Or.inl ⟨by rfl, ?_⟩) (by assumption) ?_
    rotate_left
    · (intro w' hSw; (try dsimp only at hSw); go_simp; try (with_reducible rfl))
    try simp only [Act.put, List.setIfInBounds_toArray, List.set_cons_zero, List.set_cons_succ]
    refine wpAnyH_ready (rs := [13]) (by kernel_rfl) (by simp) ?_
    refine AllReadyH.cons rfl (fun K hK => ?_) AllReadyH.nil
    go_simp
    refine (D4.out _).mono ?_
    rintro e wn ⟨rfl, hbn⟩
    have HE := Lib.hid (HE.out.below hbn)
    clear hbn
    refine hK.out _ _ ⟨_, HE.out⟩ (fun hHeld => ?_)
    clear hK K
    try simp only [Act.put, List.setIfInBounds_toArray, List.set_cons_zero, List.set_cons_succ]
    refine take_op (i := 14) (d := some 50) (v := ?_) rfl rfl (by kernel_rfl) (by kernel_rfl) (by kernel_rfl) (fun _ _ _ h => h) (Or.inl ⟨by rfl, ?_⟩) (by assumption) ?_
    rotate_left
    · (intro w' hSw; (try dsimp only at hSw); go_simp; try (with_reducible rfl))
    try simp only [Act.put, List.setIfInBounds_toArray, List.set_cons_zero, List.set_cons_succ]
    refine wpAnyH_ready (rs := [15]) (by kernel_rfl) (by simp) ?_
    refine AllReadyH.cons rfl (fun K hK => ?_) AllReadyH.nil
    go_simp
    refine (write_c bb bb [] (z1 ++ z2 ++ z3 ++ z4) _ HE.out.ib (by rw [ByteArray.size_append, ByteArray.size_append, ByteArray.size_append, hz1, hz2, hz3, hz4]; simp) HE.out.sz).mono ?_
    rintro e wf ⟨rfl, hba, hbf⟩
    have hen := HE.out.write hbf (.inr hba)
    refine hK.out _ _ ⟨_, hen⟩ (fun _ => ?_)
    clear hK K
    try simp only [Act.put, List.setIfInBounds_toArray, List.set_cons_zero, List.set_cons_succ]
    refine wpAnyH_done (by kernel_rfl) ?_ _
    have hfin : Hid (∃ l : List UInt8, l.length = 14 ∧ EN w wf bt bb m0 m1 m2 m3 h ao len cap S (Lib.byteCells l)) := ⟨(z1 ++ z2 ++ z3 ++ z4).data.toList, by show (z1 ++ z2 ++ z3 ++ z4).data.toList.length = 14; rw [Array.length_toList]; show (z1 ++ z2 ++ z3 ++ z4).size = 14; rw [ByteArray.size_append, ByteArray.size_append, ByteArray.size_append, hz1, hz2, hz3, hz4], hen⟩
    go_wp2_with fail
    go_meet
    exact hfin
  case rest =>
    obtain ⟨l, hl, hen0⟩ := hcut.out
    have HE1 := Lib.hid hen0
    clear hen0 hcut HE0 HE0d
    go_upto_region 12 with (fail)
    have HE1d : Hid (EN w wc.drew bt bb m0 m1 m2 m3 h ao len cap S (Lib.byteCells l)) := HE1.out.below (by exact (Below.refl _ _).drew)
    go_cut [64] (fun _ wx => Hid (∃ l : List UInt8, l.length = 16 + h.size ∧ EN w wx bt bb m0 m1 m2 m3 h ao len cap S (Lib.byteCells l)))
    case first =>
      refine wp_region_held_drew (S := fun w' => ∃ bs, EN w w' bt bb m0 m1 m2 m3 h ao len cap S bs) (by kernel_rfl) ⟨_, HE1d.out⟩ (fun hHeld => ?_)
      have HE := Lib.hid HE1d.out
      clear HE1d
      refine take_op (i := 0) (d := some 52) (v := ?_) rfl rfl (by kernel_rfl) (by kernel_rfl) (by kernel_rfl) (fun _ _ _ h => h) (Or.inl ⟨by rfl, ?_⟩) (by assumption) ?_
      rotate_left
      · (intro w' hSw; (try dsimp only at hSw); obtain ⟨bs, hEn⟩ := hSw; obtain ⟨c0, c1, c2, c3, c4, c5⟩ := pk_cells hEn.tb; go_simp; try (with_reducible rfl))
      try simp only [Act.put, List.setIfInBounds_toArray, List.set_cons_zero, List.set_cons_succ]
      refine take_op (i := 1) (d := some 53) (v := ?_) rfl rfl (by kernel_rfl) (by kernel_rfl) (by kernel_rfl) (fun _ _ _ h => h) (Or.inl ⟨by rfl, ?_⟩) (by assumption) ?_
      rotate_left
      · (intro w' hSw; (try dsimp only at hSw); obtain ⟨bs, hEn⟩ := hSw; obtain ⟨c0, c1, c2, c3, c4, c5⟩ := pk_cells hEn.tb; go_simp; try (with_reducible rfl))
      try simp only [Act.put, List.setIfInBounds_toArray, List.set_cons_zero, List.set_cons_succ]
      refine take_op (i := 2) (d := some 54) (v := ?_) rfl rfl (by kernel_rfl) (by kernel_rfl) (by kernel_rfl) (fun _ _ _ h => h) (Or.inl ⟨by rfl, ?_⟩) (by assumption) ?_
      rotate_left
      · (intro w' hSw; (try dsimp only at hSw); obtain ⟨bs, hEn⟩ := hSw; obtain ⟨c0, c1, c2, c3, c4, c5⟩ := pk_cells hEn.tb; go_simp; try (with_reducible rfl))
      try simp only [Act.put, List.setIfInBounds_toArray, List.set_cons_zero, List.set_cons_succ]
      refine take_op (i := 4) (d := some 56) (v := ?_) rfl rfl (by kernel_rfl) (by kernel_rfl) (by kernel_rfl) (fun _ _ _ h => h) (Or.inl ⟨by rfl, ?_⟩) (by assumption) ?_
      rotate_left
      · (intro w' hSw; (try dsimp only at hSw); obtain ⟨bs, hEn⟩ := hSw; obtain ⟨c0, c1, c2, c3, c4, c5⟩ := pk_cells hEn.tb; go_simp; try (with_reducible rfl))
      try simp only [Act.put, List.setIfInBounds_toArray, List.set_cons_zero, List.set_cons_succ]
      refine take_op (i := 5) (d := some 57) (v := ?_) rfl rfl (by kernel_rfl) (by kernel_rfl) (by kernel_rfl) (fun _ _ _ h => h) (Or.inl ⟨by rfl, ?_⟩) (by assumption) ?_
      rotate_left
      · (intro w' hSw; (try dsimp only at hSw); obtain ⟨bs, hEn⟩ := hSw; obtain ⟨c0, c1, c2, c3, c4, c5⟩ := pk_cells hEn.tb; go_simp; try (with_reducible rfl))
      try simp only [Act.put, List.setIfInBounds_toArray, List.set_cons_zero, List.set_cons_succ]
      refine take_op (i := 6) (d := some 58) (v := ?_) rfl rfl (by kernel_rfl) (by kernel_rfl) (by kernel_rfl) (fun _ _ _ h => h) (Or.inl ⟨by rfl, ?_⟩) (by assumption) ?_
      rotate_left
      · (intro w' hSw; (try dsimp only at hSw); obtain ⟨bs, hEn⟩ := hSw; obtain ⟨c0, c1, c2, c3, c4, c5⟩ := pk_cells hEn.tb; go_simp; try (with_reducible rfl))
      try simp only [Act.put, List.setIfInBounds_toArray, List.set_cons_zero, List.set_cons_succ]
      refine take_op (i := 9) (d := some 61) (v := ?_) rfl rfl (by kernel_rfl) (by kernel_rfl) (by kernel_rfl) (fun _ _ _ h => h) (Or.inl ⟨by rfl, ?_⟩) (by assumption) ?_
      rotate_left
      · (intro w' hSw; (try dsimp only at hSw); obtain ⟨bs, hEn⟩ := hSw; obtain ⟨c0, c1, c2, c3, c4, c5⟩ := pk_cells hEn.tb; go_simp; try (with_reducible rfl))
      try simp only [Act.put, List.setIfInBounds_toArray, List.set_cons_zero, List.set_cons_succ]
      refine take_op (i := 10) (d := some 62) (v := ?_) rfl rfl (by kernel_rfl) (by kernel_rfl) (by kernel_rfl) (fun _ _ _ h => h) (Or.inl ⟨by rfl, ?_⟩) (by assumption) ?_
      rotate_left
      · (intro w' hSw; (try dsimp only at hSw); obtain ⟨bs, hEn⟩ := hSw; obtain ⟨c0, c1, c2, c3, c4, c5⟩ := pk_cells hEn.tb; go_simp; try (with_reducible rfl))
      try simp only [Act.put, List.setIfInBounds_toArray, List.set_cons_zero, List.set_cons_succ]
      refine wpAnyH_ready (rs := [3]) (by kernel_rfl) (by simp) ?_
      refine AllReadyH.cons rfl (fun K hK => ?_) AllReadyH.nil
      go_simp
      refine (D5.out _).mono ?_
      rintro e wn ⟨rfl, hbn⟩
      have HE := Lib.hid (HE.out.below hbn)
      clear hbn
      refine hK.out _ _ ⟨_, HE.out⟩ (fun hHeld => ?_)
      clear hK K
      try simp only [Act.put, List.setIfInBounds_toArray, List.set_cons_zero, List.set_cons_succ]
      refine wpAnyH_ready (rs := [7]) (by kernel_rfl) (by simp) ?_
      refine AllReadyH.cons rfl (fun K hK => ?_) AllReadyH.nil
      go_simp
      refine (D6.out _).mono ?_
      rintro e wn ⟨rfl, hbn⟩
      have HE := Lib.hid (HE.out.below hbn)
      clear hbn
      refine hK.out _ _ ⟨_, HE.out⟩ (fun hHeld => ?_)
      clear hK K
      try simp only [Act.put, List.setIfInBounds_toArray, List.set_cons_zero, List.set_cons_succ]
      refine take_op (i := 8) (d := some 60) (v := ?_) rfl rfl (by kernel_rfl) (by kernel_rfl) (by kernel_rfl) (fun _ _ _ h => h) (Or.inl ⟨by rfl, ?_⟩) (by assumption) ?_
      rotate_left
      · (intro w' hSw; (try dsimp only at hSw); go_simp; try (with_reducible rfl))
      try simp only [Act.put, List.setIfInBounds_toArray, List.set_cons_zero, List.set_cons_succ]
      refine take_op (i := 11) (d := some 63) (v := ?_) rfl rfl (by kernel_rfl) (by kernel_rfl) (by kernel_rfl) (fun _ _ _ h => h) (Or.inl ⟨by rfl, ?_⟩) (by assumption) ?_
      rotate_left
      · (intro w' hSw; (try dsimp only at hSw); have hcat : ¬ (9223372036854775807 < 2 + h.size) := (by omega); go_simp; try (with_reducible rfl))
      try simp only [Act.put, List.setIfInBounds_toArray, List.set_cons_zero, List.set_cons_succ]
      refine wpAnyH_ready (rs := [12]) (by kernel_rfl) (by simp) ?_
      refine AllReadyH.cons rfl (fun K hK => ?_) AllReadyH.nil
      go_simp
      have hlw : (Lib.byteCells l).length = 14 := by rw [Lib.byteCells_length, hl]
      refine (write_c bb bb (Lib.byteCells l) _ _ HE.out.ib ?_ HE.out.sz).mono ?_
      · rw [hlw, ByteArray.size_append, ByteArray.size_append, hz5, hz6]; omega
      rintro e wf ⟨rfl, hba, hbf⟩
      have hen := HE.out.write hbf (.inr hba)
      refine hK.out _ _ ⟨_, hen⟩ (fun _ => ?_)
      clear hK K
      try simp only [Act.put, List.setIfInBounds_toArray, List.set_cons_zero, List.set_cons_succ]
      refine wpAnyH_done (by kernel_rfl) ?_ _
      have hfin : Hid (∃ l : List UInt8, l.length = 16 + h.size ∧ EN w wf bt bb m0 m1 m2 m3 h ao len cap S (Lib.byteCells l)) := cells_add hl hen (by rw [ByteArray.size_append, ByteArray.size_append, hz5, hz6]; omega)
      go_wp2_with fail
      go_meet
      exact hfin
    case rest =>
      obtain ⟨l2, hl2, hen2⟩ := hcut.out
      have HE2 := Lib.hid hen2
      have HL2 := Lib.hid hl2
      clear hen2 hcut HE1 HE1d hl l hl2 D1 D2 D3 D4 D5 D6 hz1 hz2 hz3 hz4 hz5 hz6 z1 z2 z3 z4 z5 z6 q0 q1 q2 q3 q4
      obtain ⟨c0, c1, c2, c3, c4, c5⟩ := pk_cells HE2.out.tb
      go_wp2_with fail
      clear c0 c1 c2 c3 c4 c5
      go_loopw [68] (fun i wr => ∃ k : Nat, k ≤ len ∧ i = .int .i64 k ∧ ∃ l : List UInt8, Hid (l.length = 16 + h.size + itot S k) ∧ Hid (EN w wr bt bb m0 m1 m2 m3 h ao len cap S (Lib.byteCells l))) (fun i _ => len - (intOf i).toNat)
      case atStart => exact ⟨0, by omega, rfl, l2, HL2.out, HE2.out⟩
      case round =>
        obtain ⟨k, hk, rfl, l, HL, HK⟩ := hrel
        by_cases hlt : k < len
        · obtain ⟨b, off, rfl, hck, _⟩ := HK.out.it k hlt
          have HTS : Hid (itot S k + (2 + (S k).size) = itot S (k + 1) ∧ itot S (k + 1) ≤ itot S len) := ⟨rfl, itot_mono S (by omega)⟩
          have HSK : Hid ((S k).size ≤ 512) := by have := HTS.out; have := HT.out; unfold Hid; omega
          have HZ : Hid (∃ z : ByteArray, z.size = 2 ∧ ∀ w, Calls Try.prog 24 #[.int .i64 (S k).size, .int .i64 2] w fun e w' => e = .returned (.string z) ∧ Below w.heap.size w w') := big_sz (S k).size 2 (by have := HSK.out; omega) (by omega) (by omega)
          have HLN : Hid (l.length + (2 + (S k).size) = 16 + h.size + itot S (k + 1)) := by have := HTS.out; have := HL.out; unfold Hid; omega
          have HLB : Hid (l.length ≤ 512) := by have := HL.out; have := HTS.out; have := HT.out; unfold Hid; omega
          obtain ⟨z, hz, CZ⟩ := HZ.out
          have DZ := Lib.hid CZ
          clear CZ HZ HTS
          generalize S k = s at *
          have hss : s.size ≤ 512 := HSK.out
          go_wp2_with fail
          refine (DZ.out _).mono ?_
          rintro e wn ⟨rfl, hbn⟩
          have HKn := Lib.hid (HK.out.below hbn)
          clear hbn HK DZ hck
          go_wp2_with fail
          refine (write_c bb bb (Lib.byteCells l) (z ++ s) _ HKn.out.ib (by rw [Lib.byteCells_length, ByteArray.size_append, hz]; have := HLB.out; omega) HKn.out.sz).mono ?_
          rintro e wf ⟨rfl, hba, hbf⟩
          have hen := HKn.out.write hbf (.inr hba)
          have HFIN := Lib.hid (cells_add (m := l.length + (2 + s.size)) rfl hen (by rw [ByteArray.size_append, hz]))
          clear hba hbf hen HKn
          go_wp2_with fail
          go_roundw
          case rel =>
            obtain ⟨l3, hl3, hen3⟩ := HFIN.out
            exact ⟨k + 1, by omega, by go_num, l3, hl3.trans HLN.out, hen3⟩
          case measure => simp [intOf]; omega
        · have e : k = len := by omega
          subst e
          have HL2 : Hid (l.length ≤ 508) := by have := HL.out; have := HT.out; unfold Hid; omega
          go_wp2_with fail
          refine (Try.Builder_Len_f bb bb (Lib.byteCells l) _ HK.out.ib).mono ?_
          rintro e w3 ⟨rfl, rfl⟩
          rw [Lib.byteCells_length]
          obtain ⟨n, hn⟩ : ∃ n, n = l.length := ⟨_, rfl⟩
          rw [← hn] at HL2 ⊢
          have HNL := Lib.hid hn
          clear hn
          have hnl : n ≤ 508 := HL2.out
          obtain ⟨c, hc⟩ : ∃ c : Nat, c = 508 - n := ⟨_, rfl⟩
          have hsub : (508 : Int) - (n : Int) = (c : Int) := by omega
          have HC : Hid (n + c = 508) := by unfold Hid; omega
          clear hc
          go_wp2_with fail
          obtain ⟨sr, hsr, CR⟩ := rep_sz c (by omega)
          refine (CR _).mono ?_
          rintro e w4 ⟨rfl, hb4⟩
          have HK4 := Lib.hid (HK.out.below hb4)
          have HRS := Lib.hid hsr
          clear CR hsr
          clear hb4 HK hsub
          go_wp2_with fail
          refine (write_c bb bb (Lib.byteCells l) sr _ HK4.out.ib (by rw [Lib.byteCells_length, HRS.out, ← HNL.out]; have := HC.out; omega) HK4.out.sz).mono ?_
          rintro e w5 ⟨rfl, hba, hbf⟩
          have hen := HK4.out.write hbf (.inr hba)
          have HFIN := Lib.hid (cells_add (m := 508) HNL.out.symm hen (by rw [HRS.out]; exact HC.out))
          clear hba hbf hen HK4 HRS HC hnl
          obtain ⟨l4, hl4, hen4⟩ := HFIN.out
          have HK5 := Lib.hid hen4
          clear hen4 HFIN
          go_wp2_with fail
          refine (Try.Builder_String_any_f bb bb l4 _ HK5.out.ib HK5.out.sz).mono ?_
          rintro e w6 ⟨rfl, hi6, hb6⟩
          have HK6 := Lib.hid (HK5.out.write hb6 hi6)
          obtain ⟨t4, ht4⟩ : ∃ t4 : ByteArray, t4 = ⟨l4.toArray⟩ := ⟨_, rfl⟩
          rw [← ht4]
          have HT4s : Hid (t4.size = 508) := by unfold Hid; rw [ht4, mk_size]; exact hl4
          have HT4 := Lib.hid ht4
          clear hi6 hb6 HK5 ht4
          go_wp2_with fail
          have ht63 : t4.size ≤ 9223372036854775807 := by have := HT4s.out; omega
          refine (sum_c t4 _ ht63).mono ?_
          rintro e w7 ⟨rfl, rfl⟩
          have hcl := csum_lt t4.data.toList
          obtain ⟨n9, hn9⟩ : ∃ n9, n9 = csum t4.data.toList := ⟨_, rfl⟩
          rw [← hn9] at hcl ⊢
          clear hn9 ht63
          obtain ⟨z9, hz9, CB⟩ := big_sz n9 4 (by omega) (by omega) (by omega)
          have DB := Lib.hid CB
          clear CB
          go_wp2_with fail
          refine (DB.out _).mono ?_
          rintro e w8 ⟨rfl, hb8⟩
          have HK8 := Lib.hid (HK6.out.below hb8)
          clear hb8 HK6 DB
          go_wp2_with fail
          refine (Try.Builder_String_any_f bb bb l4 _ HK8.out.ib HK8.out.sz).mono ?_
          rintro e w9 ⟨rfl, hi9, hb9⟩
          have HK9 := Lib.hid (HK8.out.write hb9 hi9)
          rw [← HT4.out]
          have hts := HT4s.out
          clear hi9 hb9 HK8
          go_wp2_with fail
          go_ret2
          exact ⟨⟨_, rfl⟩, HK9.out.bel⟩
end Go.Proofs.Ytkjnjccjkjachaa
