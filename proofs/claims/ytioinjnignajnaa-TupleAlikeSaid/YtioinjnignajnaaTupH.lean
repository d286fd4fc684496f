/- The walk of TupleAlike. -/
import Derived.Test.YtioinjnignajnaaTupG
namespace Go.Proofs.Ytioinjnignajnaa
open Go.RowKit
set_option linter.unusedSimpArgs false

/-- Two arguments, boxed. -/
structure Bx2 (W wx : World) (b1 b2 : Nat) (x y : Int) (f : Bool) (k v : ByteArray) (x2 y2 : Int) (f2 : Bool) (k2 v2 : ByteArray) : Prop where
  t1 : TB wx b1 x y f k v
  t2 : TB wx b2 x2 y2 f2 k2 v2
  bel : Below W.heap.size W wx
theorem Bx2.below {W wx w' : World} {b1 b2 : Nat} {x y : Int} {f : Bool} {k v : ByteArray} {x2 y2 : Int} {f2 : Bool} {k2 v2 : ByteArray} (h : Bx2 W wx b1 b2 x y f k v x2 y2 f2 k2 v2) (hb : Below wx.heap.size wx w') : Bx2 W w' b1 b2 x y f k v x2 y2 f2 k2 v2 :=
  ⟨h.t1.below hb, h.t2.below hb, h.bel.trans (hb.mono h.bel.size)⟩
theorem enc_inj {x y x2 y2 : Int} {f f2 : Bool} {k v k2 v2 : ByteArray} (h : encok x y k v = true) (h2 : encok x2 y2 k2 v2 = true) (e : (⟨(encL x y f k v).toArray⟩ : ByteArray) = ⟨(encL x2 y2 f2 k2 v2).toArray⟩) : x = x2 ∧ y = y2 ∧ f = f2 ∧ k = k2 ∧ v = v2 := by
  have h3 := dec_enc x y f k v h
  rw [e, dec_enc x2 y2 f2 k2 v2 h2] at h3
  injection h3 with h3
  injection h3 with e1 h3; injection h3 with e2 h3; injection h3 with e3 h3; injection h3 with e4 e5
  exact ⟨e1.symm, e2.symm, e3.symm, e4.symm, e5.symm⟩
theorem toList_inj {a b : ByteArray} (h : a.toList = b.toList) : a = b := by
  rw [ByteArray.toList_eq, ByteArray.toList_eq] at h
  exact ByteArray.ext (Array.ext' h)
theorem encok_mix {x y x2 y2 : Int} {k v k2 v2 : ByteArray} (h : encok x y k v = true) (h2 : encok x2 y2 k2 v2 = true) : encok x2 y2 k v = true := by
  have := encok_yes h; have := encok_yes h2; simp [encok]; omega
theorem mk_alike {x y x2 y2 : Int} {f f2 : Bool} {k v k2 v2 : ByteArray} (h : encok x y k v = true) (h2 : encok x2 y2 k2 v2 = true) : (⟨(encL x2 y2 f2 k v).toArray⟩ : ByteArray).size = (⟨(encL x y f k v).toArray⟩ : ByteArray).size := by
  rw [mk_size, mk_size, encL_len h, encL_len (encok_mix h h2)]

set_option maxRecDepth 100000 in
set_option maxHeartbeats 8000000 in
theorem tupleAlike_w (x y : Int) (f : Bool) (k v : ByteArray) (x2 y2 : Int) (f2 : Bool) (k2 v2 : ByteArray) (w : World) :
    Calls Try.prog 4 #[.agg #[.int .i64 x, .int .i64 y, .bool f, .string k, .string v], .agg #[.int .i64 x2, .int .i64 y2, .bool f2, .string k2, .string v2]] w fun e w' => e = .returned (.bool true) ∧ Below w.heap.size w w' := by
  obtain ⟨wb, hwb⟩ : ∃ wb, wb = (w.alloc (.cells #[.int .i64 x, .int .i64 y, .bool f, .string k, .string v] 23)).alloc (.cells #[.int .i64 x2, .int .i64 y2, .bool f2, .string k2, .string v2] 23) := ⟨_, rfl⟩
  obtain ⟨b1, hb1⟩ : ∃ b1, b1 = w.heap.size := ⟨_, rfl⟩
  obtain ⟨b2, hb2⟩ : ∃ b2, b2 = w.heap.size + 1 := ⟨_, rfl⟩
  have H0 : Hid (Bx2 w wb b1 b2 x y f k v x2 y2 f2 k2 v2) := by
    rw [hwb, hb1, hb2]
    exact ⟨heap_alloc2_old w _ _, heap_alloc2_new w _ _, ((Below.refl _ w).alloc (Nat.le_refl _) _).alloc (by simp) _⟩
  have HN2 : Hid (w.heap.size ≤ b2 ∧ b1 ≠ b2) := by unfold Hid; omega
  have HWB := Lib.hid hwb
  have HB1 := Lib.hid hb1
  have HB2 := Lib.hid hb2
  clear hwb hb1 hb2
  obtain ⟨S1, E1, CE1, _, hE1⟩ := enc_both x y f k v
  obtain ⟨S2, E2, CE2, _, hE2⟩ := enc_both x2 y2 f2 k2 v2
  rcases hE1 with ⟨rfl, hS1, hk1⟩ | ⟨rfl, _, _⟩
  · rcases hE2 with ⟨rfl, hS2, hk2⟩ | ⟨rfl, _, _⟩
    · have HINJ := Lib.hid (enc_inj (f := f) (f2 := f2) hk1 hk2)
      have HSZ := Lib.hid (mk_alike (f := f) (f2 := f2) hk1 hk2)
      rw [← hS1, ← hS2] at HINJ
      rw [← hS1] at HSZ
      have CE3 := Lib.hid (fun w => enc_yes x2 y2 f2 k v w (encok_mix hk1 hk2))
      obtain ⟨S3, hS3⟩ : ∃ S3 : ByteArray, S3 = ⟨(encL x2 y2 f2 k v).toArray⟩ := ⟨_, rfl⟩
      rw [← hS3] at CE3 HSZ
      have HS1 := Lib.hid hS1
      have HS2 := Lib.hid hS2
      clear hS1 hS2 hS3 hk1 hk2
      by_cases e0 : x = x2
      · subst e0
        by_cases e1 : y = y2
        · subst e1
          by_cases e2 : f = f2
          · subst e2
            by_cases e3 : k = k2
            · subst e3
              by_cases e4 : v = v2
              · subst e4
                have hss : S1 = S2 := by rw [HS1.out, HS2.out]
                subst hss
                go_enter Try.func4, Try.ntmps4
                go_wp2_with fail
                rw [← HWB.out, ← HB2.out, ← HB1.out]
                clear HWB HB1 HB2
                refine (CE1.out _).mono ?_
                rintro e w1 ⟨rfl, hb⟩
                have H1 := Lib.hid (H0.out.below hb)
                clear hb H0
                obtain ⟨d0, d1, d2, d3, d4⟩ := H1.out.t2.cell
                go_wp2_with fail
                refine (CE2.out _).mono ?_
                rintro e w2 ⟨rfl, hb⟩
                have H2 := Lib.hid (H1.out.below hb)
                clear hb H1 d0 d1 d2 d3 d4
                obtain ⟨c0, c1, c2, c3, c4⟩ := H2.out.t1.cell
                obtain ⟨d0, d1, d2, d3, d4⟩ := H2.out.t2.cell
                have df3 := H2.out.t2.fr 3
                have df4 := H2.out.t2.fr 4
                have hne := HN2.out.2
                go_wp2_with fail
                have HT : Hid (TB ((w2.setCell ⟨b2, 3, none⟩ (.string k)).setCell ⟨b2, 4, none⟩ (.string v)) b2 _ _ _ k v ∧ Below w.heap.size w ((w2.setCell ⟨b2, 3, none⟩ (.string k)).setCell ⟨b2, 4, none⟩ (.string v))) :=
                  ⟨(H2.out.t2.set3 k).set4 v, H2.out.bel.grown (grown_trans (grown_set w2 b2 3 (.string k)) (grown_set _ b2 4 (.string v))) H2.out.bel.size (by rintro j hj; cases hj; exact HN2.out.1)⟩
                generalize (w2.setCell ⟨b2, 3, none⟩ (.string k)).setCell ⟨b2, 4, none⟩ (.string v) = w3 at HT ⊢
                clear c0 c1 c2 c3 c4 d0 d1 d2 d3 d4 df3 df4 H2
                refine (CE3.out _).mono ?_
                rintro e w4 ⟨rfl, hb⟩
                have H4 := Lib.hid (HT.out.2.trans (hb.mono HT.out.2.size))
                clear hb
                have hsz : ((S3.size : Int) == (S1.size : Int)) = true := by rw [HSZ.out, beq_self_eq_true]
                have hsz2 := HSZ.out
                go_wp2_with fail
                refine (awake_c _).mono ?_
                rintro e w5 ⟨rfl, hb⟩
                have H5 := Lib.hid (H4.out.trans (hb.mono H4.out.size))
                clear hb
                go_wp2_with fail
                go_ret
                exact ⟨rfl, H5.out⟩
              · have hd1 : ¬ v2.toList = v.toList := fun h => e4 (toList_inj h).symm
                have hd2 : ¬ v.toList = v2.toList := fun h => e4 (toList_inj h)
                have hds : (S1.toList == S2.toList) = false := by rw [beq_eq_false_iff_ne]; exact fun h => e4 (HINJ.out (toList_inj h)).2.2.2.2
                have HE := Lib.hid e4
                clear e4
                go_enter Try.func4, Try.ntmps4
                go_wp2_with fail
                rw [← HWB.out, ← HB2.out, ← HB1.out]
                clear HWB HB1 HB2
                refine (CE1.out _).mono ?_
                rintro e w1 ⟨rfl, hb⟩
                have H1 := Lib.hid (H0.out.below hb)
                clear hb H0
                obtain ⟨d0, d1, d2, d3, d4⟩ := H1.out.t2.cell
                go_wp2_with fail
                refine (CE2.out _).mono ?_
                rintro e w2 ⟨rfl, hb⟩
                have H2 := Lib.hid (H1.out.below hb)
                clear hb H1 d0 d1 d2 d3 d4
                obtain ⟨c0, c1, c2, c3, c4⟩ := H2.out.t1.cell
                obtain ⟨d0, d1, d2, d3, d4⟩ := H2.out.t2.cell
                have df3 := H2.out.t2.fr 3
                have df4 := H2.out.t2.fr 4
                have hne := HN2.out.2
                go_wp2_with fail
                have HT : Hid (TB ((w2.setCell ⟨b2, 3, none⟩ (.string k)).setCell ⟨b2, 4, none⟩ (.string v)) b2 _ _ _ k v ∧ Below w.heap.size w ((w2.setCell ⟨b2, 3, none⟩ (.string k)).setCell ⟨b2, 4, none⟩ (.string v))) :=
                  ⟨(H2.out.t2.set3 k).set4 v, H2.out.bel.grown (grown_trans (grown_set w2 b2 3 (.string k)) (grown_set _ b2 4 (.string v))) H2.out.bel.size (by rintro j hj; cases hj; exact HN2.out.1)⟩
                generalize (w2.setCell ⟨b2, 3, none⟩ (.string k)).setCell ⟨b2, 4, none⟩ (.string v) = w3 at HT ⊢
                clear c0 c1 c2 c3 c4 d0 d1 d2 d3 d4 df3 df4 H2
                refine (CE3.out _).mono ?_
                rintro e w4 ⟨rfl, hb⟩
                have H4 := Lib.hid (HT.out.2.trans (hb.mono HT.out.2.size))
                clear hb
                have hsz : ((S3.size : Int) == (S1.size : Int)) = true := by rw [HSZ.out, beq_self_eq_true]
                have hsz2 := HSZ.out
                go_wp2_with fail
                refine (awake_c _).mono ?_
                rintro e w5 ⟨rfl, hb⟩
                have H5 := Lib.hid (H4.out.trans (hb.mono H4.out.size))
                clear hb
                go_wp2_with fail
                go_ret
                exact ⟨rfl, H5.out⟩
            · have hd1 : ¬ k2.toList = k.toList := fun h => e3 (toList_inj h).symm
              have hd2 : ¬ k.toList = k2.toList := fun h => e3 (toList_inj h)
              have hds : (S1.toList == S2.toList) = false := by rw [beq_eq_false_iff_ne]; exact fun h => e3 (HINJ.out (toList_inj h)).2.2.2.1
              have HE := Lib.hid e3
              clear e3
              go_enter Try.func4, Try.ntmps4
              go_wp2_with fail
              rw [← HWB.out, ← HB2.out, ← HB1.out]
              clear HWB HB1 HB2
              refine (CE1.out _).mono ?_
              rintro e w1 ⟨rfl, hb⟩
              have H1 := Lib.hid (H0.out.below hb)
              clear hb H0
              obtain ⟨d0, d1, d2, d3, d4⟩ := H1.out.t2.cell
              go_wp2_with fail
              refine (CE2.out _).mono ?_
              rintro e w2 ⟨rfl, hb⟩
              have H2 := Lib.hid (H1.out.below hb)
              clear hb H1 d0 d1 d2 d3 d4
              obtain ⟨c0, c1, c2, c3, c4⟩ := H2.out.t1.cell
              obtain ⟨d0, d1, d2, d3, d4⟩ := H2.out.t2.cell
              have df3 := H2.out.t2.fr 3
              have df4 := H2.out.t2.fr 4
              have hne := HN2.out.2
              go_wp2_with fail
              have HT : Hid (TB ((w2.setCell ⟨b2, 3, none⟩ (.string k)).setCell ⟨b2, 4, none⟩ (.string v)) b2 _ _ _ k v ∧ Below w.heap.size w ((w2.setCell ⟨b2, 3, none⟩ (.string k)).setCell ⟨b2, 4, none⟩ (.string v))) :=
                ⟨(H2.out.t2.set3 k).set4 v, H2.out.bel.grown (grown_trans (grown_set w2 b2 3 (.string k)) (grown_set _ b2 4 (.string v))) H2.out.bel.size (by rintro j hj; cases hj; exact HN2.out.1)⟩
              generalize (w2.setCell ⟨b2, 3, none⟩ (.string k)).setCell ⟨b2, 4, none⟩ (.string v) = w3 at HT ⊢
              clear c0 c1 c2 c3 c4 d0 d1 d2 d3 d4 df3 df4 H2
              refine (CE3.out _).mono ?_
              rintro e w4 ⟨rfl, hb⟩
              have H4 := Lib.hid (HT.out.2.trans (hb.mono HT.out.2.size))
              clear hb
              have hsz : ((S3.size : Int) == (S1.size : Int)) = true := by rw [HSZ.out, beq_self_eq_true]
              have hsz2 := HSZ.out
              go_wp2_with fail
              refine (awake_c _).mono ?_
              rintro e w5 ⟨rfl, hb⟩
              have H5 := Lib.hid (H4.out.trans (hb.mono H4.out.size))
              clear hb
              go_wp2_with fail
              go_ret
              exact ⟨rfl, H5.out⟩
          · have hd1 : (f2 == f) = false := by rw [beq_eq_false_iff_ne]; exact fun h => e2 h.symm
            have hd2 : (f == f2) = false := by rw [beq_eq_false_iff_ne]; exact e2
            have hds : (S1.toList == S2.toList) = false := by rw [beq_eq_false_iff_ne]; exact fun h => e2 (HINJ.out (toList_inj h)).2.2.1
            have HE := Lib.hid e2
            clear e2
            go_enter Try.func4, Try.ntmps4
            go_wp2_with fail
            rw [← HWB.out, ← HB2.out, ← HB1.out]
            clear HWB HB1 HB2
            refine (CE1.out _).mono ?_
            rintro e w1 ⟨rfl, hb⟩
            have H1 := Lib.hid (H0.out.below hb)
            clear hb H0
            obtain ⟨d0, d1, d2, d3, d4⟩ := H1.out.t2.cell
            go_wp2_with fail
            refine (CE2.out _).mono ?_
            rintro e w2 ⟨rfl, hb⟩
            have H2 := Lib.hid (H1.out.below hb)
            clear hb H1 d0 d1 d2 d3 d4
            obtain ⟨c0, c1, c2, c3, c4⟩ := H2.out.t1.cell
            obtain ⟨d0, d1, d2, d3, d4⟩ := H2.out.t2.cell
            have df3 := H2.out.t2.fr 3
            have df4 := H2.out.t2.fr 4
            have hne := HN2.out.2
            go_wp2_with fail
            have HT : Hid (TB ((w2.setCell ⟨b2, 3, none⟩ (.string k)).setCell ⟨b2, 4, none⟩ (.string v)) b2 _ _ _ k v ∧ Below w.heap.size w ((w2.setCell ⟨b2, 3, none⟩ (.string k)).setCell ⟨b2, 4, none⟩ (.string v))) :=
              ⟨(H2.out.t2.set3 k).set4 v, H2.out.bel.grown (grown_trans (grown_set w2 b2 3 (.string k)) (grown_set _ b2 4 (.string v))) H2.out.bel.size (by rintro j hj; cases hj; exact HN2.out.1)⟩
            generalize (w2.setCell ⟨b2, 3, none⟩ (.string k)).setCell ⟨b2, 4, none⟩ (.string v) = w3 at HT ⊢
            clear c0 c1 c2 c3 c4 d0 d1 d2 d3 d4 df3 df4 H2
            refine (CE3.out _).mono ?_
            rintro e w4 ⟨rfl, hb⟩
            have H4 := Lib.hid (HT.out.2.trans (hb.mono HT.out.2.size))
            clear hb
            have hsz : ((S3.size : Int) == (S1.size : Int)) = true := by rw [HSZ.out, beq_self_eq_true]
            have hsz2 := HSZ.out
            go_wp2_with fail
            refine (awake_c _).mono ?_
            rintro e w5 ⟨rfl, hb⟩
            have H5 := Lib.hid (H4.out.trans (hb.mono H4.out.size))
            clear hb
            go_wp2_with fail
            go_ret
            exact ⟨rfl, H5.out⟩
        · have hd1 : (y2 == y) = false := by rw [beq_eq_false_iff_ne]; exact fun h => e1 h.symm
          have hd2 : (y == y2) = false := by rw [beq_eq_false_iff_ne]; exact e1
          have hds : (S1.toList == S2.toList) = false := by rw [beq_eq_false_iff_ne]; exact fun h => e1 (HINJ.out (toList_inj h)).2.1
          have HE := Lib.hid e1
          clear e1
          go_enter Try.func4, Try.ntmps4
          go_wp2_with fail
          rw [← HWB.out, ← HB2.out, ← HB1.out]
          clear HWB HB1 HB2
          refine (CE1.out _).mono ?_
          rintro e w1 ⟨rfl, hb⟩
          have H1 := Lib.hid (H0.out.below hb)
          clear hb H0
          obtain ⟨d0, d1, d2, d3, d4⟩ := H1.out.t2.cell
          go_wp2_with fail
          refine (CE2.out _).mono ?_
          rintro e w2 ⟨rfl, hb⟩
          have H2 := Lib.hid (H1.out.below hb)
          clear hb H1 d0 d1 d2 d3 d4
          obtain ⟨c0, c1, c2, c3, c4⟩ := H2.out.t1.cell
          obtain ⟨d0, d1, d2, d3, d4⟩ := H2.out.t2.cell
          have df3 := H2.out.t2.fr 3
          have df4 := H2.out.t2.fr 4
          have hne := HN2.out.2
          go_wp2_with fail
          have HT : Hid (TB ((w2.setCell ⟨b2, 3, none⟩ (.string k)).setCell ⟨b2, 4, none⟩ (.string v)) b2 _ _ _ k v ∧ Below w.heap.size w ((w2.setCell ⟨b2, 3, none⟩ (.string k)).setCell ⟨b2, 4, none⟩ (.string v))) :=
            ⟨(H2.out.t2.set3 k).set4 v, H2.out.bel.grown (grown_trans (grown_set w2 b2 3 (.string k)) (grown_set _ b2 4 (.string v))) H2.out.bel.size (by rintro j hj; cases hj; exact HN2.out.1)⟩
          generalize (w2.setCell ⟨b2, 3, none⟩ (.string k)).setCell ⟨b2, 4, none⟩ (.string v) = w3 at HT ⊢
          clear c0 c1 c2 c3 c4 d0 d1 d2 d3 d4 df3 df4 H2
          refine (CE3.out _).mono ?_
          rintro e w4 ⟨rfl, hb⟩
          have H4 := Lib.hid (HT.out.2.trans (hb.mono HT.out.2.size))
          clear hb
          have hsz : ((S3.size : Int) == (S1.size : Int)) = true := by rw [HSZ.out, beq_self_eq_true]
          have hsz2 := HSZ.out
          go_wp2_with fail
          refine (awake_c _).mono ?_
          rintro e w5 ⟨rfl, hb⟩
          have H5 := Lib.hid (H4.out.trans (hb.mono H4.out.size))
          clear hb
          go_wp2_with fail
          go_ret
          exact ⟨rfl, H5.out⟩
      · have hd1 : (x2 == x) = false := by rw [beq_eq_false_iff_ne]; exact fun h => e0 h.symm
        have hd2 : (x == x2) = false := by rw [beq_eq_false_iff_ne]; exact e0
        have hds : (S1.toList == S2.toList) = false := by rw [beq_eq_false_iff_ne]; exact fun h => e0 (HINJ.out (toList_inj h)).1
        have HE := Lib.hid e0
        clear e0
        go_enter Try.func4, Try.ntmps4
        go_wp2_with fail
        rw [← HWB.out, ← HB2.out, ← HB1.out]
        clear HWB HB1 HB2
        refine (CE1.out _).mono ?_
        rintro e w1 ⟨rfl, hb⟩
        have H1 := Lib.hid (H0.out.below hb)
        clear hb H0
        obtain ⟨d0, d1, d2, d3, d4⟩ := H1.out.t2.cell
        go_wp2_with fail
        refine (CE2.out _).mono ?_
        rintro e w2 ⟨rfl, hb⟩
        have H2 := Lib.hid (H1.out.below hb)
        clear hb H1 d0 d1 d2 d3 d4
        obtain ⟨c0, c1, c2, c3, c4⟩ := H2.out.t1.cell
        obtain ⟨d0, d1, d2, d3, d4⟩ := H2.out.t2.cell
        have df3 := H2.out.t2.fr 3
        have df4 := H2.out.t2.fr 4
        have hne := HN2.out.2
        go_wp2_with fail
        have HT : Hid (TB ((w2.setCell ⟨b2, 3, none⟩ (.string k)).setCell ⟨b2, 4, none⟩ (.string v)) b2 _ _ _ k v ∧ Below w.heap.size w ((w2.setCell ⟨b2, 3, none⟩ (.string k)).setCell ⟨b2, 4, none⟩ (.string v))) :=
          ⟨(H2.out.t2.set3 k).set4 v, H2.out.bel.grown (grown_trans (grown_set w2 b2 3 (.string k)) (grown_set _ b2 4 (.string v))) H2.out.bel.size (by rintro j hj; cases hj; exact HN2.out.1)⟩
        generalize (w2.setCell ⟨b2, 3, none⟩ (.string k)).setCell ⟨b2, 4, none⟩ (.string v) = w3 at HT ⊢
        clear c0 c1 c2 c3 c4 d0 d1 d2 d3 d4 df3 df4 H2
        refine (CE3.out _).mono ?_
        rintro e w4 ⟨rfl, hb⟩
        have H4 := Lib.hid (HT.out.2.trans (hb.mono HT.out.2.size))
        clear hb
        have hsz : ((S3.size : Int) == (S1.size : Int)) = true := by rw [HSZ.out, beq_self_eq_true]
        have hsz2 := HSZ.out
        go_wp2_with fail
        refine (awake_c _).mono ?_
        rintro e w5 ⟨rfl, hb⟩
        have H5 := Lib.hid (H4.out.trans (hb.mono H4.out.size))
        clear hb
        go_wp2_with fail
        go_ret
        exact ⟨rfl, H5.out⟩
    · skip
      go_enter Try.func4, Try.ntmps4
      go_wp2_with fail
      rw [← HWB.out, ← HB2.out, ← HB1.out]
      clear HWB HB1 HB2
      refine (CE1.out _).mono ?_
      rintro e w1 ⟨rfl, hb⟩
      have H1 := Lib.hid (H0.out.below hb)
      clear hb H0
      obtain ⟨d0, d1, d2, d3, d4⟩ := H1.out.t2.cell
      go_wp2_with fail
      refine (CE2.out _).mono ?_
      rintro e w2 ⟨rfl, hb⟩
      have H2 := Lib.hid (H1.out.below hb)
      clear hb H1 d0 d1 d2 d3 d4
      go_wp2_with fail
      refine (awake_c _).mono ?_
      rintro e w3 ⟨rfl, hb⟩
      have H3 := Lib.hid (H2.out.below hb)
      clear hb
      go_wp2_with fail
      go_ret
      exact ⟨rfl, H3.out.bel⟩
  · skip
    rcases hE2 with ⟨rfl, _, _⟩ | ⟨rfl, _, _⟩
    · skip
      go_enter Try.func4, Try.ntmps4
      go_wp2_with fail
      rw [← HWB.out, ← HB2.out, ← HB1.out]
      clear HWB HB1 HB2
      refine (CE1.out _).mono ?_
      rintro e w1 ⟨rfl, hb⟩
      have H1 := Lib.hid (H0.out.below hb)
      clear hb H0
      obtain ⟨d0, d1, d2, d3, d4⟩ := H1.out.t2.cell
      go_wp2_with fail
      refine (CE2.out _).mono ?_
      rintro e w2 ⟨rfl, hb⟩
      have H2 := Lib.hid (H1.out.below hb)
      clear hb H1 d0 d1 d2 d3 d4
      go_wp2_with fail
      refine (awake_c _).mono ?_
      rintro e w3 ⟨rfl, hb⟩
      have H3 := Lib.hid (H2.out.below hb)
      clear hb
      go_wp2_with fail
      go_ret
      exact ⟨rfl, H3.out.bel⟩
    · skip
      go_enter Try.func4, Try.ntmps4
      go_wp2_with fail
      rw [← HWB.out, ← HB2.out, ← HB1.out]
      clear HWB HB1 HB2
      refine (CE1.out _).mono ?_
      rintro e w1 ⟨rfl, hb⟩
      have H1 := Lib.hid (H0.out.below hb)
      clear hb H0
      obtain ⟨d0, d1, d2, d3, d4⟩ := H1.out.t2.cell
      go_wp2_with fail
      refine (CE2.out _).mono ?_
      rintro e w2 ⟨rfl, hb⟩
      have H2 := Lib.hid (H1.out.below hb)
      clear hb H1 d0 d1 d2 d3 d4
      go_wp2_with fail
      refine (awake_c _).mono ?_
      rintro e w3 ⟨rfl, hb⟩
      have H3 := Lib.hid (H2.out.below hb)
      clear hb
      go_wp2_with fail
      go_ret
      exact ⟨rfl, H3.out.bel⟩
end Go.Proofs.Ytioinjnignajnaa
