/- Pages: a right page is encoded. -/
import Derived.Test.YtpmhcpphbilokaaPgB
import Derived.Test.YtpmhcpphbilokaaBitsA
import Derived.Test.YtpmhcpphbilokaaBitsL
namespace Go.Proofs.Ytpmhcpphbilokaa
open Go.RowKit
set_option linter.unusedSimpArgs false
set_option maxRecDepth 100000

theorem isb_below {T e : TypeId} {B b : Nat} {bs : List Value} {w w' : World} (h : Lib.IsBuilderF T e B b bs w) (hb : Below w.heap.size w w') : Lib.IsBuilderF T e B b bs w' := by
  rcases h with h | h
  · have hl := h.lt
    obtain ⟨hB, v, hbk, ho, hne⟩ := h
    exact .inl ⟨hB, v, (hb.block b hl).trans hbk, ho.kept (grown_of hb) (by cases v.ownBlock <;> simp), hne⟩
  · have hl := h.lt
    obtain ⟨hB, v, hbk, ho, hne⟩ := h
    exact .inr ⟨hB, v, (hb.block b hl).trans hbk, ho.kept (grown_of hb) (by cases v.ownBlock <;> simp), hne⟩
/-- While a page is being written. -/
structure EN (W wx : World) (bt bb : Nat) (ao : Option Addr) (S : Nat → ByteArray) (bs : List Value) : Prop where
  pk : PK wx bt 0 1 0 0 ⟨#[]⟩ (.slice ao 2 2)
  it : StrsIn wx ao 2 S
  ib : Lib.IsBuilderF 71 5 bb bb bs wx
  bel : Below W.heap.size W wx
  n0 : bt < bb
  n1 : ∀ b off, ao = some ⟨b, off, none⟩ → b < bb
  n2 : W.heap.size ≤ bb
  sz : bb ≤ wx.heap.size
theorem EN.below {W wx w' : World} {bt bb : Nat} {ao : Option Addr} {S : Nat → ByteArray} {bs : List Value} (H : EN W wx bt bb ao S bs) (hb : Below wx.heap.size wx w') : EN W w' bt bb ao S bs :=
  ⟨H.pk.below hb, H.it.below hb rfl, isb_below H.ib hb, H.bel.trans (hb.mono H.bel.size), H.n0, H.n1, H.n2, Nat.le_trans H.sz hb.size⟩
theorem EN.write {W wx w' : World} {bt bb : Nat} {ao : Option Addr} {S : Nat → ByteArray} {bs bs' : List Value} (H : EN W wx bt bb ao S bs) (hb : Below bb wx w') (hi : Lib.IsBuilderF 71 5 bb bb bs' w') : EN W w' bt bb ao S bs' :=
  ⟨(hb.block bt H.n0).trans H.pk, fun i hi => by
    obtain ⟨b, off, e, hc, hs⟩ := H.it i hi
    exact ⟨b, off, e, (hb.cell (H.n1 b off e)).trans hc, hs⟩, hi, H.bel.trans (hb.mono H.n2), H.n0, H.n1, H.n2, Nat.le_trans H.sz hb.size⟩
theorem big_sz (n k : Nat) (hn : n ≤ 9223372036854775807) (h1 : 1 ≤ k) (h8 : k ≤ 8) : ∃ z : ByteArray, z.size = k ∧ ∀ w, Calls Try.prog 40 #[.int .i64 n, .int .i64 k] w fun e w' => e = .returned (.string z) ∧ Below w.heap.size w w' :=
  ⟨⟨(bigL n k).toArray⟩, by rw [size_arr]; simp [bigL], fun w => big_yes n k w hn h1 h8⟩

theorem rep_sz (c : Nat) (hc : c ≤ 508) : ∃ z : ByteArray, z.size = c ∧ ∀ w, Calls Try.prog 41 #[.string ⟨#[0]⟩, .int .i64 c] w fun e w' => e = .returned (.string z) ∧ Below w.heap.size w w' :=
  ⟨⟨(Lib.repeatL (ByteArray.data ⟨#[0]⟩).toList c).toArray⟩, by rw [size_arr, Lib.repeatL_length]; show c * 1 = c; omega, fun w => Try.strings_Repeat ⟨#[0]⟩ c w (by omega) (by show 1 * c ≤ 140737488355328; omega)⟩
theorem cells_add {W wx : World} {bt bb : Nat} {ao : Option Addr} {S : Nat → ByteArray} {l : List UInt8} {s : ByteArray} {n m : Nat} (hl : l.length = n) (H : EN W wx bt bb ao S (Lib.byteCells l ++ Lib.strCells s)) (hm : n + s.size = m) :
    ∃ l' : List UInt8, l'.length = m ∧ EN W wx bt bb ao S (Lib.byteCells l') := by
  refine ⟨l ++ s.data.toList, ?_, ?_⟩
  · rw [List.length_append, hl, ← hm]; rfl
  · have e : Lib.byteCells (l ++ s.data.toList) = Lib.byteCells l ++ Lib.strCells s := by simp [Lib.byteCells, Lib.strCells]
    rw [e]; exact H

set_option maxHeartbeats 8000000 in
theorem encode_c (ao : Option Addr) (S : Nat → ByteArray) (w : World) (hs : StrsIn w ao 2 S) (h0 : (S 0).size ≤ 10) (h1 : (S 1).size ≤ 256) :
    Calls Try.prog 23 #[.agg #[.int .i64 0, .int .i64 1, .int .i64 0, .int .i64 0, .string ⟨#[]⟩, .slice ao 2 2]] w fun e w' => (∃ s, e = .returned (.tuple #[.string s, .int .i64 0])) ∧ Below w.heap.size w w' := by
  obtain ⟨b, off, rfl, hlt⟩ := hs.blk (by omega)
  obtain ⟨wb, hwb⟩ : ∃ wb, wb = w.alloc (.cells #[.int .i64 0, .int .i64 1, .int .i64 0, .int .i64 0, .string ⟨#[]⟩, .slice (some ⟨b, off, none⟩) 2 2] 25) := ⟨_, rfl⟩
  obtain ⟨bt, hbt⟩ : ∃ bt, bt = w.heap.size := ⟨_, rfl⟩
  have hb := (Below.refl w.heap.size w).alloc (Nat.le_refl _) (.cells #[.int .i64 0, .int .i64 1, .int .i64 0, .int .i64 0, .string ⟨#[]⟩, .slice (some ⟨b, off, none⟩) 2 2] 25)
  rw [← hwb] at hb
  have HB := Lib.hid hb
  have HS := Lib.hid (hs.below hb rfl)
  have HP : Hid (PK wb bt 0 1 0 0 ⟨#[]⟩ (.slice (some ⟨b, off, none⟩) 2 2)) := by rw [hwb, hbt]; exact PK.new w _ _ _ _ _ _
  have HLT : Hid (b < bt ∧ w.heap.size ≤ bt) := by rw [hbt]; exact ⟨hlt, Nat.le_refl _⟩
  have HWB := Lib.hid hwb
  have HBT := Lib.hid hbt
  obtain ⟨z1, hz1, C1⟩ := big_sz 0 8 (by omega) (by omega) (by omega)
  obtain ⟨z2, hz2, C2⟩ := big_sz 1 1 (by omega) (by omega) (by omega)
  obtain ⟨z3, hz3, C3⟩ := big_sz 0 1 (by omega) (by omega) (by omega)
  obtain ⟨z4, hz4, C4⟩ := big_sz 0 4 (by omega) (by omega) (by omega)
  obtain ⟨z5, hz5, C5⟩ := big_sz 2 1 (by omega) (by omega) (by omega)
  obtain ⟨z6, hz6, C6⟩ := big_sz (S 0).size 2 (by omega) (by omega) (by omega)
  obtain ⟨z7, hz7, C7⟩ := big_sz (S 1).size 2 (by omega) (by omega) (by omega)
  have D1 := Lib.hid C1
  have D2 := Lib.hid C2
  have D3 := Lib.hid C3
  have D4 := Lib.hid C4
  have D5 := Lib.hid C5
  have D6 := Lib.hid C6
  have D7 := Lib.hid C7
  clear C1 C2 C3 C4 C5 C6 C7 hwb hbt hb hs hlt
  go_enter Try.func23, Try.ntmps23
  have c := HP.out.cell
  rw [HWB.out, HBT.out] at c
  obtain ⟨c0, c1, c2, c3, c4, c5⟩ := c
  go_wp2_with fail
  clear c0 c1 c2 c3 c4 c5
  rw [← HWB.out, ← HBT.out]
  clear HWB HBT
  refine (fits_c _ S wb HS.out h0 h1).mono ?_
  rintro e w1 ⟨rfl, hb1⟩
  have HS1 := Lib.hid (HS.out.below hb1 rfl)
  have HP1 := Lib.hid (HP.out.below hb1)
  have HB1 := Lib.hid (HB.out.trans (hb1.mono HB.out.size))
  have HLT1 : Hid (bt < w1.heap.size) := HP1.out.lt
  have HE0 : Hid (EN w (w1.alloc (.cells #[.pointer none, .slice none 0 0] 71)) bt w1.heap.size (some ⟨b, off, none⟩) S []) := by
    have ha : Below w1.heap.size w1 (w1.alloc (.cells #[.pointer none, .slice none 0 0] 71)) := (Below.refl _ w1).alloc (Nat.le_refl _) _
    refine ⟨HP1.out.below ha, HS1.out.below ha rfl, Lib.IsBuilderF.of (Lib.fresh_isBuilder _ _ w1), HB1.out.trans (ha.mono HB1.out.size), HLT1.out, ?_, HB1.out.size, by simp⟩
    rintro b' off' e
    injection e with e; injection e with e1 _
    subst e1
    have := HLT.out.1; have := HLT1.out; omega
  clear hb1 HS HP HB HS1 HP1 HB1 HLT HLT1
  go_upto_region 11 with (fail)
  generalize w1.alloc (.cells #[.pointer none, .slice none 0 0] 71) = w2 at *
  generalize w1.heap.size = bb at *
  have HE0d : Hid (EN w w2.drew bt bb (some ⟨b, off, none⟩) S []) := HE0.out.below (by exact (Below.refl _ _).drew)
  go_cut [51] (fun _ wx => Hid (∃ l : List UInt8, l.length = 14 ∧ EN w wx bt bb (some ⟨b, off, none⟩) S (Lib.byteCells l)))
  case first =>
    refine wp_region_held_drew (S := fun w' => ∃ bs, EN w w' bt bb (some ⟨b, off, none⟩) S bs) (by kernel_rfl) ⟨_, HE0d.out⟩ (fun hHeld => ?_)
    clear HE0
    refine take_op (i := 0) (d := some 36) (v := ?_) rfl rfl (by kernel_rfl) (by kernel_rfl) (by kernel_rfl) (fun _ _ _ h => h) (Or.inl ⟨by rfl, ?_⟩) (by assumption) ?_
    rotate_left
    · (intro w' hSw; (try dsimp only at hSw); obtain ⟨bs, hEn⟩ := hSw; obtain ⟨c0, c1, c2, c3, c4, c5⟩ := hEn.pk.cell; go_simp; try (with_reducible rfl))
    try simp only [Act.put, List.setIfInBounds_toArray, List.set_cons_zero, List.set_cons_succ]
    refine take_op (i := 1) (d := some 37) (v := ?_) rfl rfl (by kernel_rfl) (by kernel_rfl) (by kernel_rfl) (fun _ _ _ h => h) (Or.inl ⟨by rfl, ?_⟩) (by assumption) ?_
    rotate_left
    · (intro w' hSw; (try dsimp only at hSw); obtain ⟨bs, hEn⟩ := hSw; obtain ⟨c0, c1, c2, c3, c4, c5⟩ := hEn.pk.cell; go_simp; try (with_reducible rfl))
    try simp only [Act.put, List.setIfInBounds_toArray, List.set_cons_zero, List.set_cons_succ]
    refine take_op (i := 3) (d := some 39) (v := ?_) rfl rfl (by kernel_rfl) (by kernel_rfl) (by kernel_rfl) (fun _ _ _ h => h) (Or.inl ⟨by rfl, ?_⟩) (by assumption) ?_
    rotate_left
    · (intro w' hSw; (try dsimp only at hSw); obtain ⟨bs, hEn⟩ := hSw; obtain ⟨c0, c1, c2, c3, c4, c5⟩ := hEn.pk.cell; go_simp; try (with_reducible rfl))
    try simp only [Act.put, List.setIfInBounds_toArray, List.set_cons_zero, List.set_cons_succ]
    refine take_op (i := 4) (d := some 40) (v := ?_) rfl rfl (by kernel_rfl) (by kernel_rfl) (by kernel_rfl) (fun _ _ _ h => h) (Or.inl ⟨by rfl, ?_⟩) (by assumption) ?_
    rotate_left
    · (intro w' hSw; (try dsimp only at hSw); obtain ⟨bs, hEn⟩ := hSw; obtain ⟨c0, c1, c2, c3, c4, c5⟩ := hEn.pk.cell; go_simp; try (with_reducible rfl))
    try simp only [Act.put, List.setIfInBounds_toArray, List.set_cons_zero, List.set_cons_succ]
    refine take_op (i := 7) (d := some 43) (v := ?_) rfl rfl (by kernel_rfl) (by kernel_rfl) (by kernel_rfl) (fun _ _ _ h => h) (Or.inl ⟨by rfl, ?_⟩) (by assumption) ?_
    rotate_left
    · (intro w' hSw; (try dsimp only at hSw); obtain ⟨bs, hEn⟩ := hSw; obtain ⟨c0, c1, c2, c3, c4, c5⟩ := hEn.pk.cell; go_simp; try (with_reducible rfl))
    try simp only [Act.put, List.setIfInBounds_toArray, List.set_cons_zero, List.set_cons_succ]
    refine take_op (i := 8) (d := some 44) (v := ?_) rfl rfl (by kernel_rfl) (by kernel_rfl) (by kernel_rfl) (fun _ _ _ h => h) (Or.inl ⟨by rfl, ?_⟩) (by assumption) ?_
    rotate_left
    · (intro w' hSw; (try dsimp only at hSw); obtain ⟨bs, hEn⟩ := hSw; obtain ⟨c0, c1, c2, c3, c4, c5⟩ := hEn.pk.cell; go_simp; try (with_reducible rfl))
    try simp only [Act.put, List.setIfInBounds_toArray, List.set_cons_zero, List.set_cons_succ]
    refine take_op (i := 11) (d := some 47) (v := ?_) rfl rfl (by kernel_rfl) (by kernel_rfl) (by kernel_rfl) (fun _ _ _ h => h) (Or.inl ⟨by rfl, ?_⟩) (by assumption) ?_
    rotate_left
    · (intro w' hSw; (try dsimp only at hSw); obtain ⟨bs, hEn⟩ := hSw; obtain ⟨c0, c1, c2, c3, c4, c5⟩ := hEn.pk.cell; go_simp; try (with_reducible rfl))
    try simp only [Act.put, List.setIfInBounds_toArray, List.set_cons_zero, List.set_cons_succ]
    refine take_op (i := 12) (d := some 48) (v := ?_) rfl rfl (by kernel_rfl) (by kernel_rfl) (by kernel_rfl) (fun _ _ _ h => h) (Or.inl ⟨by rfl, ?_⟩) (by assumption) ?_
    rotate_left
    · (intro w' hSw; (try dsimp only at hSw); obtain ⟨bs, hEn⟩ := hSw; obtain ⟨c0, c1, c2, c3, c4, c5⟩ := hEn.pk.cell; go_simp; try (with_reducible rfl))
    try simp only [Act.put, List.setIfInBounds_toArray, List.set_cons_zero, List.set_cons_succ]
    refine wpAnyH_ready (rs := [2]) (by kernel_rfl) (by simp) ?_
    refine AllReadyH.cons rfl (fun K hK => ?_) AllReadyH.nil
    · go_simp
      refine (D1.out _).mono ?_
      rintro e wn ⟨rfl, hbn⟩
      have HE11 := Lib.hid (HE0d.out.below hbn)
      refine hK.out _ _ ⟨_, HE11.out⟩ (fun _ => ?_)
      clear hK K hbn
      try simp only [Act.put, List.setIfInBounds_toArray, List.set_cons_zero, List.set_cons_succ]
      refine wpAnyH_ready (rs := [5]) (by kernel_rfl) (by simp) ?_
      refine AllReadyH.cons rfl (fun K hK => ?_) AllReadyH.nil
      · go_simp
        refine (D2.out _).mono ?_
        rintro e wn ⟨rfl, hbn⟩
        have HE12 := Lib.hid (HE11.out.below hbn)
        refine hK.out _ _ ⟨_, HE12.out⟩ (fun _ => ?_)
        clear hK K hbn
        try simp only [Act.put, List.setIfInBounds_toArray, List.set_cons_zero, List.set_cons_succ]
        have hHeld : ∃ bs, EN w wn bt bb (some ⟨b, off, none⟩) S bs := ⟨_, HE12.out⟩
        refine take_op (i := 6) (d := some 42) (v := ?_) rfl rfl (by kernel_rfl) (by kernel_rfl) (by kernel_rfl) (fun _ _ _ h => h) (Or.inl ⟨by rfl, ?_⟩) (by assumption) ?_
        rotate_left
        · (intro w' hSw; (try dsimp only at hSw); go_simp; try (with_reducible rfl))
        try simp only [Act.put, List.setIfInBounds_toArray, List.set_cons_zero, List.set_cons_succ]
        refine wpAnyH_ready (rs := [9]) (by kernel_rfl) (by simp) ?_
        refine AllReadyH.cons rfl (fun K hK => ?_) AllReadyH.nil
        · go_simp
          refine (D3.out _).mono ?_
          rintro e wn ⟨rfl, hbn⟩
          have HE13 := Lib.hid (HE12.out.below hbn)
          refine hK.out _ _ ⟨_, HE13.out⟩ (fun _ => ?_)
          clear hK K hbn
          try simp only [Act.put, List.setIfInBounds_toArray, List.set_cons_zero, List.set_cons_succ]
          have hHeld : ∃ bs, EN w wn bt bb (some ⟨b, off, none⟩) S bs := ⟨_, HE13.out⟩
          refine take_op (i := 10) (d := some 46) (v := ?_) rfl rfl (by kernel_rfl) (by kernel_rfl) (by kernel_rfl) (fun _ _ _ h => h) (Or.inl ⟨by rfl, ?_⟩) (by assumption) ?_
          rotate_left
          · (intro w' hSw; (try dsimp only at hSw); go_simp; try (with_reducible rfl))
          try simp only [Act.put, List.setIfInBounds_toArray, List.set_cons_zero, List.set_cons_succ]
          refine wpAnyH_ready (rs := [13]) (by kernel_rfl) (by simp) ?_
          refine AllReadyH.cons rfl (fun K hK => ?_) AllReadyH.nil
          · go_simp
            refine (D4.out _).mono ?_
            rintro e wn ⟨rfl, hbn⟩
            have HE14 := Lib.hid (HE13.out.below hbn)
            refine hK.out _ _ ⟨_, HE14.out⟩ (fun _ => ?_)
            clear hK K hbn
            try simp only [Act.put, List.setIfInBounds_toArray, List.set_cons_zero, List.set_cons_succ]
            have hHeld : ∃ bs, EN w wn bt bb (some ⟨b, off, none⟩) S bs := ⟨_, HE14.out⟩
            refine take_op (i := 14) (d := some 50) (v := ?_) rfl rfl (by kernel_rfl) (by kernel_rfl) (by kernel_rfl) (fun _ _ _ h => h) (Or.inl ⟨by rfl, ?_⟩) (by assumption) ?_
            rotate_left
            · (intro w' hSw; (try dsimp only at hSw); go_simp; try (with_reducible rfl))
            try simp only [Act.put, List.setIfInBounds_toArray, List.set_cons_zero, List.set_cons_succ]
            refine wpAnyH_ready (rs := [15]) (by kernel_rfl) (by simp) ?_
            refine AllReadyH.cons rfl (fun K hK => ?_) AllReadyH.nil
            go_simp
            refine (write_c bb bb [] (z1 ++ z2 ++ z3 ++ z4) _ HE14.out.ib (by rw [ByteArray.size_append, ByteArray.size_append, ByteArray.size_append, hz1, hz2, hz3, hz4]; simp) HE14.out.sz).mono ?_
            rintro e wf ⟨rfl, hba, hbf⟩
            have hen := HE14.out.write hbf (.inr hba)
            refine hK.out _ _ ⟨_, hen⟩ (fun _ => ?_)
            clear hK K
            try simp only [Act.put, List.setIfInBounds_toArray, List.set_cons_zero, List.set_cons_succ]
            refine wpAnyH_done (by kernel_rfl) ?_ _
            have hfin : Hid (∃ l : List UInt8, l.length = 14 ∧ EN w wf bt bb (some ⟨b, off, none⟩) S (Lib.byteCells l)) := ⟨(z1 ++ z2 ++ z3 ++ z4).data.toList, by show (z1 ++ z2 ++ z3 ++ z4).data.toList.length = 14; rw [Array.length_toList]; show (z1 ++ z2 ++ z3 ++ z4).size = 14; rw [ByteArray.size_append, ByteArray.size_append, ByteArray.size_append, hz1, hz2, hz3, hz4], hen⟩
            go_wp2_with fail
            go_meet
            exact hfin
  case rest =>
    obtain ⟨l, hl, hen0⟩ := hcut.out
    have HE1 := Lib.hid hen0
    clear hen0 hcut HE0 HE0d
    go_upto_region 12 with (fail)
    have HE1d : Hid (EN w wc.drew bt bb (some ⟨b, off, none⟩) S (Lib.byteCells l)) := HE1.out.below (by exact (Below.refl _ _).drew)
    go_cut [64] (fun _ wx => Hid (∃ l : List UInt8, l.length = 16 ∧ EN w wx bt bb (some ⟨b, off, none⟩) S (Lib.byteCells l)))
    case first =>
      refine wp_region_held_drew (S := fun w' => ∃ bs, EN w w' bt bb (some ⟨b, off, none⟩) S bs) (by kernel_rfl) ⟨_, HE1d.out⟩ (fun hHeld => ?_)
      refine take_op (i := 0) (d := some 52) (v := ?_) rfl rfl (by kernel_rfl) (by kernel_rfl) (by kernel_rfl) (fun _ _ _ h => h) (Or.inl ⟨by rfl, ?_⟩) (by assumption) ?_
      rotate_left
      · (intro w' hSw; (try dsimp only at hSw); obtain ⟨bs, hEn⟩ := hSw; obtain ⟨c0, c1, c2, c3, c4, c5⟩ := hEn.pk.cell; go_simp; try (with_reducible rfl))
      try simp only [Act.put, List.setIfInBounds_toArray, List.set_cons_zero, List.set_cons_succ]
      refine take_op (i := 1) (d := some 53) (v := ?_) rfl rfl (by kernel_rfl) (by kernel_rfl) (by kernel_rfl) (fun _ _ _ h => h) (Or.inl ⟨by rfl, ?_⟩) (by assumption) ?_
      rotate_left
      · (intro w' hSw; (try dsimp only at hSw); obtain ⟨bs, hEn⟩ := hSw; obtain ⟨c0, c1, c2, c3, c4, c5⟩ := hEn.pk.cell; go_simp; try (with_reducible rfl))
      try simp only [Act.put, List.setIfInBounds_toArray, List.set_cons_zero, List.set_cons_succ]
      refine take_op (i := 2) (d := some 54) (v := ?_) rfl rfl (by kernel_rfl) (by kernel_rfl) (by kernel_rfl) (fun _ _ _ h => h) (Or.inl ⟨by rfl, ?_⟩) (by assumption) ?_
      rotate_left
      · (intro w' hSw; (try dsimp only at hSw); obtain ⟨bs, hEn⟩ := hSw; obtain ⟨c0, c1, c2, c3, c4, c5⟩ := hEn.pk.cell; go_simp; try (with_reducible rfl))
      try simp only [Act.put, List.setIfInBounds_toArray, List.set_cons_zero, List.set_cons_succ]
      refine take_op (i := 4) (d := some 56) (v := ?_) rfl rfl (by kernel_rfl) (by kernel_rfl) (by kernel_rfl) (fun _ _ _ h => h) (Or.inl ⟨by rfl, ?_⟩) (by assumption) ?_
      rotate_left
      · (intro w' hSw; (try dsimp only at hSw); obtain ⟨bs, hEn⟩ := hSw; obtain ⟨c0, c1, c2, c3, c4, c5⟩ := hEn.pk.cell; go_simp; try (with_reducible rfl))
      try simp only [Act.put, List.setIfInBounds_toArray, List.set_cons_zero, List.set_cons_succ]
      refine take_op (i := 5) (d := some 57) (v := ?_) rfl rfl (by kernel_rfl) (by kernel_rfl) (by kernel_rfl) (fun _ _ _ h => h) (Or.inl ⟨by rfl, ?_⟩) (by assumption) ?_
      rotate_left
      · (intro w' hSw; (try dsimp only at hSw); obtain ⟨bs, hEn⟩ := hSw; obtain ⟨c0, c1, c2, c3, c4, c5⟩ := hEn.pk.cell; go_simp; try (with_reducible rfl))
      try simp only [Act.put, List.setIfInBounds_toArray, List.set_cons_zero, List.set_cons_succ]
      refine take_op (i := 6) (d := some 58) (v := ?_) rfl rfl (by kernel_rfl) (by kernel_rfl) (by kernel_rfl) (fun _ _ _ h => h) (Or.inl ⟨by rfl, ?_⟩) (by assumption) ?_
      rotate_left
      · (intro w' hSw; (try dsimp only at hSw); obtain ⟨bs, hEn⟩ := hSw; obtain ⟨c0, c1, c2, c3, c4, c5⟩ := hEn.pk.cell; go_simp; try (with_reducible rfl))
      try simp only [Act.put, List.setIfInBounds_toArray, List.set_cons_zero, List.set_cons_succ]
      refine take_op (i := 9) (d := some 61) (v := ?_) rfl rfl (by kernel_rfl) (by kernel_rfl) (by kernel_rfl) (fun _ _ _ h => h) (Or.inl ⟨by rfl, ?_⟩) (by assumption) ?_
      rotate_left
      · (intro w' hSw; (try dsimp only at hSw); obtain ⟨bs, hEn⟩ := hSw; obtain ⟨c0, c1, c2, c3, c4, c5⟩ := hEn.pk.cell; go_simp; try (with_reducible rfl))
      try simp only [Act.put, List.setIfInBounds_toArray, List.set_cons_zero, List.set_cons_succ]
      refine take_op (i := 10) (d := some 62) (v := ?_) rfl rfl (by kernel_rfl) (by kernel_rfl) (by kernel_rfl) (fun _ _ _ h => h) (Or.inl ⟨by rfl, ?_⟩) (by assumption) ?_
      rotate_left
      · (intro w' hSw; (try dsimp only at hSw); obtain ⟨bs, hEn⟩ := hSw; obtain ⟨c0, c1, c2, c3, c4, c5⟩ := hEn.pk.cell; go_simp; try (with_reducible rfl))
      try simp only [Act.put, List.setIfInBounds_toArray, List.set_cons_zero, List.set_cons_succ]
      refine wpAnyH_ready (rs := [3]) (by kernel_rfl) (by simp) ?_
      refine AllReadyH.cons rfl (fun K hK => ?_) AllReadyH.nil
      go_simp
      refine (D5.out _).mono ?_
      rintro e wn ⟨rfl, hbn⟩
      have HE2 := Lib.hid (HE1d.out.below hbn)
      refine hK.out _ _ ⟨_, HE2.out⟩ (fun _ => ?_)
      clear hK K hbn
      try simp only [Act.put, List.setIfInBounds_toArray, List.set_cons_zero, List.set_cons_succ]
      refine wpAnyH_ready (rs := [7]) (by kernel_rfl) (by simp) ?_
      refine AllReadyH.cons rfl (fun K hK => ?_) AllReadyH.nil
      go_simp
      refine (D3.out _).mono ?_
      rintro e wn ⟨rfl, hbn⟩
      have HE3 := Lib.hid (HE2.out.below hbn)
      refine hK.out _ _ ⟨_, HE3.out⟩ (fun _ => ?_)
      clear hK K hbn
      try simp only [Act.put, List.setIfInBounds_toArray, List.set_cons_zero, List.set_cons_succ]
      have hHeld : ∃ bs, EN w wn bt bb (some ⟨b, off, none⟩) S bs := ⟨_, HE3.out⟩
      refine take_op (i := 8) (d := some 60) (v := ?_) rfl rfl (by kernel_rfl) (by kernel_rfl) (by kernel_rfl) (fun _ _ _ h => h) (Or.inl ⟨by rfl, ?_⟩) (by assumption) ?_
      rotate_left
      · (intro w' hSw; (try dsimp only at hSw); go_simp; try (with_reducible rfl))
      try simp only [Act.put, List.setIfInBounds_toArray, List.set_cons_zero, List.set_cons_succ]
      refine take_op (i := 11) (d := some 63) (v := ?_) rfl rfl (by kernel_rfl) (by kernel_rfl) (by kernel_rfl) (fun _ _ _ h => h) (Or.inl ⟨by rfl, ?_⟩) (by assumption) ?_
      rotate_left
      · (intro w' hSw; (try dsimp only at hSw); go_simp; try (with_reducible rfl))
      try simp only [Act.put, List.setIfInBounds_toArray, List.set_cons_zero, List.set_cons_succ]
      refine wpAnyH_ready (rs := [12]) (by kernel_rfl) (by simp) ?_
      refine AllReadyH.cons rfl (fun K hK => ?_) AllReadyH.nil
      go_simp
      have hlw : (Lib.byteCells l).length = 14 := by rw [Lib.byteCells_length, hl]
      refine (write_c bb bb (Lib.byteCells l) _ _ HE3.out.ib ?_ HE3.out.sz).mono ?_
      · rw [hlw, ByteArray.size_append, ByteArray.size_append, hz5, hz3]; show 14 + (1 + 1 + 0) ≤ _; omega
      rintro e wf ⟨rfl, hba, hbf⟩
      have hen := HE3.out.write hbf (.inr hba)
      refine hK.out _ _ ⟨_, hen⟩ (fun _ => ?_)
      clear hK K
      try simp only [Act.put, List.setIfInBounds_toArray, List.set_cons_zero, List.set_cons_succ]
      refine wpAnyH_done (by kernel_rfl) ?_ _
      have hfin : Hid (∃ l : List UInt8, l.length = 16 ∧ EN w wf bt bb (some ⟨b, off, none⟩) S (Lib.byteCells l)) := cells_add hl hen (by rw [ByteArray.size_append, ByteArray.size_append, hz5, hz3]; rfl)
      go_wp2_with fail
      go_meet
      exact hfin
    case rest =>
      obtain ⟨l2, hl2, hen2⟩ := hcut.out
      have HE2 := Lib.hid hen2
      clear hen2 hcut HE1 HE1d hl l
      obtain ⟨c0, c1, c2, c3, c4, c5⟩ := HE2.out.pk.cell
      go_wp2_with fail
      clear c0 c1 c2 c3 c4 c5
      obtain ⟨n0, hn0⟩ : ∃ n0, n0 = (S 0).size := ⟨_, rfl⟩
      obtain ⟨n1, hn1⟩ : ∃ n1, n1 = (S 1).size := ⟨_, rfl⟩
      go_loopw [68] (fun i wr => ∃ k : Nat, k ≤ 2 ∧ i = .int .i64 k ∧ ∃ l : List UInt8, Hid (l.length = (if k = 0 then 16 else if k = 1 then 18 + (S 0).size else 20 + (S 0).size + (S 1).size)) ∧ Hid (EN w wr bt bb (some ⟨b, off, none⟩) S (Lib.byteCells l))) (fun i _ => 2 - (intOf i).toNat)
      case atStart => exact ⟨0, by omega, rfl, l2, hl2, HE2.out⟩
      case round =>
        obtain ⟨k, hk, rfl, l, HL, HK⟩ := hrel
        have hs0 := (HK.out.it 0 (by omega)).choose_spec.choose_spec.2.2
        by_cases hlt : k < 2
        · have hck := itAt HK.out.it hlt
          have HZ : Hid (∃ z : ByteArray, z.size = 2 ∧ ∀ w, Calls Try.prog 40 #[.int .i64 (S k).size, .int .i64 2] w fun e w' => e = .returned (.string z) ∧ Below w.heap.size w w') := big_sz (S k).size 2 (by rcases (by omega : k = 0 ∨ k = 1) with rfl | rfl <;> omega) (by omega) (by omega)
          have HSK : Hid ((S k).size ≤ 256) := by unfold Hid; rcases (by omega : k = 0 ∨ k = 1) with rfl | rfl <;> omega
          have HLN : Hid (l.length + (2 + (S k).size) = (if k + 1 = 0 then 16 else if k + 1 = 1 then 18 + (S 0).size else 20 + (S 0).size + (S 1).size)) := by
            have := HL.out
            unfold Hid
            rcases (by omega : k = 0 ∨ k = 1) with rfl | rfl
            · simp at this ⊢; omega
            · simp at this ⊢; omega
          have HLB : Hid (l.length ≤ 300) := by have := HLN.out; have := HL.out; unfold Hid; rw [this]; split <;> (first | omega | (split <;> omega))
          obtain ⟨z, hz, CZ⟩ := HZ.out
          have DZ := Lib.hid CZ
          clear CZ HZ hs0
          generalize S k = s at *
          have hss : s.size ≤ 256 := HSK.out
          clear h0 h1 hn0 hn1
          go_wp2_with fail
          refine (DZ.out _).mono ?_
          rintro e wn ⟨rfl, hbn⟩
          have HKn := Lib.hid (HK.out.below hbn)
          clear hbn HK DZ
          go_wp2_with fail
          refine (write_c bb bb (Lib.byteCells l) (z ++ s) _ HKn.out.ib (by rw [Lib.byteCells_length, ByteArray.size_append, hz]; have := HLB.out; omega) HKn.out.sz).mono ?_
          rintro e wf ⟨rfl, hba, hbf⟩
          have hen := HKn.out.write hbf (.inr hba)
          have HFIN := Lib.hid (cells_add (m := l.length + (2 + s.size)) rfl hen (by rw [ByteArray.size_append, hz]))
          clear hba hbf hen HKn
          go_wp2_with fail
          go_roundw
          case rel =>
            obtain ⟨l3, hl3, hen3⟩ := HFIN.out
            exact ⟨k + 1, by omega, by go_num, l3, hl3.trans HLN.out, hen3⟩
          case measure => simp [intOf]; omega
        · have e : k = 2 := by omega
          subst e
          have HL2 : Hid (l.length ≤ 300 ∧ 20 ≤ l.length) := by have := HL.out; unfold Hid; rw [this]; simp; omega
          go_wp2_with fail
          refine (Try.Builder_Len_f bb bb (Lib.byteCells l) _ HK.out.ib).mono ?_
          rintro e w3 ⟨rfl, rfl⟩
          rw [Lib.byteCells_length]
          obtain ⟨n, hn⟩ : ∃ n, n = l.length := ⟨_, rfl⟩
          rw [← hn] at HL2 ⊢
          have HNL := Lib.hid hn
          clear hn
          have hnl : n ≤ 300 := HL2.out.1
          obtain ⟨c, hc⟩ : ∃ c : Nat, c = 508 - n := ⟨_, rfl⟩
          have hsub : (508 : Int) - (n : Int) = (c : Int) := by omega
          have HC : Hid (n + c = 508) := by unfold Hid; omega
          clear hc hs0 h0 h1 hn0 hn1
          go_wp2_with fail
          obtain ⟨sr, hsr, CR⟩ := rep_sz c (by omega)
          refine (CR _).mono ?_
          rintro e w4 ⟨rfl, hb4⟩
          have HK4 := Lib.hid (HK.out.below hb4)
          have HRS := Lib.hid hsr
          clear CR hsr
          clear hb4 HK hsub
          go_wp2_with fail
          refine (write_c bb bb (Lib.byteCells l) sr _ HK4.out.ib (by rw [Lib.byteCells_length, HRS.out, ← HNL.out]; have := HC.out; omega) HK4.out.sz).mono ?_
          rintro e w5 ⟨rfl, hba, hbf⟩
          have hen := HK4.out.write hbf (.inr hba)
          have HFIN := Lib.hid (cells_add (m := 508) HNL.out.symm hen (by rw [HRS.out]; exact HC.out))
          clear hba hbf hen HK4 HRS HC hnl
          obtain ⟨l4, hl4, hen4⟩ := HFIN.out
          have HK5 := Lib.hid hen4
          clear hen4 HFIN
          go_wp2_with fail
          refine (Try.Builder_String_any_f bb bb l4 _ HK5.out.ib HK5.out.sz).mono ?_
          rintro e w6 ⟨rfl, hi6, hb6⟩
          have HK6 := Lib.hid (HK5.out.write hb6 hi6)
          obtain ⟨t4, ht4⟩ : ∃ t4 : ByteArray, t4 = ⟨l4.toArray⟩ := ⟨_, rfl⟩
          rw [← ht4]
          have HT : Hid (t4.size = 508) := by unfold Hid; rw [ht4, size_arr]; exact hl4
          have HT4 := Lib.hid ht4
          clear hi6 hb6 HK5 ht4
          go_wp2_with fail
          have ht63 : t4.size ≤ 9223372036854775807 := by have := HT.out; omega
          refine (sum_c t4 _ ht63).mono ?_
          rintro e w7 ⟨rfl, rfl⟩
          have hcl := csum_lt t4.data.toList
          obtain ⟨n9, hn9⟩ : ∃ n9, n9 = csum t4.data.toList := ⟨_, rfl⟩
          rw [← hn9] at hcl ⊢
          clear hn9 ht63
          obtain ⟨z9, hz9, CB⟩ := big_sz n9 4 (by omega) (by omega) (by omega)
          have DB := Lib.hid CB
          clear CB
          go_wp2_with fail
          refine (DB.out _).mono ?_
          rintro e w8 ⟨rfl, hb8⟩
          have HK8 := Lib.hid (HK6.out.below hb8)
          clear hb8 HK6 DB
          go_wp2_with fail
          refine (Try.Builder_String_any_f bb bb l4 _ HK8.out.ib HK8.out.sz).mono ?_
          rintro e w9 ⟨rfl, hi9, hb9⟩
          have HK9 := Lib.hid (HK8.out.write hb9 hi9)
          rw [← HT4.out]
          have hts := HT.out
          clear hi9 hb9 HK8
          go_wp2_with fail
          go_ret2
          exact ⟨⟨_, rfl⟩, HK9.out.bel⟩
end Go.Proofs.Ytpmhcpphbilokaa
