/- Versions' bytes: how the reference reads them. -/
import Derived.Test.YtioinjnignajnaaTupJ
import Derived.Deep.RegionHeld3
import Derived.Deep.DeepCutAuto
import Derived.Laws.ResultCell
import Derived.Laws.Rows
namespace Go.Proofs.Ytioinjnignajnaa
open Go.RowKit
set_option linter.unusedSimpArgs false

/-- While the reference reads a version. -/
structure DecX (W wx : World) (br bx g : Nat) (R : ByteArray) (a : Nat) (c : Int) (x y : Int) (f : Bool) (k v : ByteArray) : Prop where
  res : TB wx br 0 0 false ⟨#[]⟩ ⟨#[]⟩
  rd : RfV wx bx R a c
  tb : TB wx g x y f k v
  bel : Below W.heap.size W wx
  n0 : W.heap.size ≤ br
  n1 : br < bx
  n2 : bx < g
theorem DecX.below {W wx w' : World} {br bx g : Nat} {R : ByteArray} {a : Nat} {c x y : Int} {f : Bool} {k v : ByteArray} (h : DecX W wx br bx g R a c x y f k v) (hb : Below wx.heap.size wx w') : DecX W w' br bx g R a c x y f k v :=
  ⟨h.res.below hb, h.rd.below hb, h.tb.below hb, h.bel.trans (hb.mono h.bel.size), h.n0, h.n1, h.n2⟩
theorem DecX.read {W wx w' : World} {br bx g : Nat} {R : ByteArray} {a a' : Nat} {c c' x y : Int} {f : Bool} {k v : ByteArray} (h : DecX W wx br bx g R a c x y f k v) (hg : wx.grownBy w' (some bx)) (hr : RfV w' bx R a' c') : DecX W w' br bx g R a' c' x y f k v := by
  have h0 := h.n0; have h1 := h.n1; have h2 := h.n2
  exact ⟨h.res.grown hg (by simp; omega), hr, h.tb.grown hg (by simp; omega), h.bel.grown hg h.bel.size (by rintro j hj; cases hj; omega), h0, h1, h2⟩
theorem DecX.key {W wx : World} {br bx g : Nat} {R : ByteArray} {a : Nat} {c x y : Int} {f : Bool} {k v : ByteArray} (h : DecX W wx br bx g R a c x y f k v) (k' : ByteArray) : DecX W (wx.setCell ⟨g, 3, none⟩ (.string k')) br bx g R a c x y f k' v := by
  have h0 := h.n0; have h1 := h.n1; have h2 := h.n2
  have hg := grown_set wx g 3 (.string k')
  exact ⟨h.res.grown hg (by simp; omega), h.rd.grown hg (by simp; omega), h.tb.set3 k', h.bel.grown hg h.bel.size (by rintro j hj; cases hj; omega), h0, h1, h2⟩
theorem DecX.val {W wx : World} {br bx g : Nat} {R : ByteArray} {a : Nat} {c x y : Int} {f : Bool} {k v : ByteArray} (h : DecX W wx br bx g R a c x y f k v) (v' : ByteArray) : DecX W (wx.setCell ⟨g, 4, none⟩ (.string v')) br bx g R a c x y f k v' := by
  have h0 := h.n0; have h1 := h.n1; have h2 := h.n2
  have hg := grown_set wx g 4 (.string v')
  exact ⟨h.res.grown hg (by simp; omega), h.rd.grown hg (by simp; omega), h.tb.set4 v', h.bel.grown hg h.bel.size (by rintro j hj; cases hj; omega), h0, h1, h2⟩
theorem end_same {R rest : ByteArray} {a : Nat} {c : Int} (h : c = 0 → rest = dropS R a) : (endV (leftV R a c) c = 0 ↔ endV rest.size c = 0) := by
  by_cases hc : c = 0
  · have e : leftV R a c = rest.size := by unfold leftV; rw [if_pos hc, h hc, dropS_size]
    rw [e]
  · unfold endV; rw [if_neg (fun q => hc q.1), if_neg (fun q => hc q.1)]

set_option maxRecDepth 100000 in
set_option maxHeartbeats 8000000 in
theorem rdec_1 (s : ByteArray) (w : World) (hs : s.size ≤ 9223372036854775000) (h5 : 5 ≤ s.size) (hb0 : s[0].toNat = 1) :
    Calls Try.prog 19 #[.string s] w fun e w' => e = .returned (decRes (decV s)) ∧ Below w.heap.size w w' := by
  have hg0 : 0 < s.size := by omega
  have hh : hd s = 1 := by rw [← hd_eq s hg0]; exact hb0
  have hi1 : (1 : Int) ≤ (s.size : Int) := by omega
  have hi3 : (3 : Int) ≤ (s.size : Int) := by omega
  have hi5 : (5 : Int) ≤ (s.size : Int) := by omega
  have CO := Lib.hid (fun (t : ByteArray) (w : World) (h : t.size ≤ 9223372036854775807) => rof_c t w h)
  have hRs : (s.extract 5 s.size).size ≤ 9223372036854775000 := by rw [ByteArray.size_extract]; omega
  obtain ⟨wb, hwb⟩ : ∃ wb, wb = (w.alloc (.cells #[.int .i64 0, .int .i64 0, .bool false, .string ⟨#[]⟩, .string ⟨#[]⟩] 23)).alloc (.cells #[.string (s.extract 5 s.size), .int .i64 0, .int .i64 0] 59) := ⟨_, rfl⟩
  obtain ⟨br, hbr⟩ : ∃ br, br = w.heap.size := ⟨_, rfl⟩
  obtain ⟨bx, hbx⟩ : ∃ bx, bx = w.heap.size + 1 := ⟨_, rfl⟩
  have HWB := Lib.hid hwb
  have HBR := Lib.hid hbr
  have HBX := Lib.hid hbx
  have H0 : Hid (TB wb br 0 0 false ⟨#[]⟩ ⟨#[]⟩ ∧ RfV wb bx (s.extract 5 s.size) 0 0 ∧ Below w.heap.size w wb ∧ w.heap.size ≤ br ∧ br < bx) := by
    rw [hwb, hbr, hbx]
    have e := heap_alloc2_new w (.cells #[.int .i64 0, .int .i64 0, .bool false, .string ⟨#[]⟩, .string ⟨#[]⟩] 23) (.cells #[.string (s.extract 5 s.size), .int .i64 0, .int .i64 0] 59)
    refine ⟨heap_alloc2_old w _ _, ⟨?_, ?_, ?_, ?_, ?_, Nat.zero_le _⟩, ((Below.refl _ w).alloc (Nat.le_refl _) _).alloc (by simp) _, Nat.le_refl _, Nat.lt_succ_self _⟩
    · simp only [World.cell?, e]; rfl
    · simp only [World.cell?, e]; rfl
    · simp only [World.cell?, e]; rfl
    · exact frozen_of_row _ _ _ _ _ e
    · exact frozen_of_row _ _ _ _ _ e
  clear hwb hbr hbx
  go_enter Try.func19, Try.ntmps19
  go_upto_region 4 with (fail)
  rw [← HWB.out, ← HBX.out, ← HBR.out]
  have HRBe : Hid (TB wb.drew br 0 0 false ⟨#[]⟩ ⟨#[]⟩) := H0.out.1
  have H0b : Hid (Below w.heap.size w wb) := H0.out.2.2.1
  go_cut [5] (fun s5 wx => ∃ g, s5 = .pointer (some ⟨g, 0, none⟩) ∧ Hid (DecX w wx br bx g (s.extract 5 s.size) 0 0 (xV s) (yV s) false ⟨#[]⟩ ⟨#[]⟩))
  case first =>
    go_region_held3 (fun w' => TB w' br 0 0 false ⟨#[]⟩ ⟨#[]⟩) ((first | exact HRBe.out | exact TB.below HRBe.out ((Below.refl _ _).alloc (Nat.le_refl _) _))) (first | (go_at_call 38; refine (CO.out _ _ (by rw [ByteArray.size_extract]; omega)).mono ?_; rintro e w2 ⟨rfl, rfl⟩))
    all_goals (
      go_wp2_with fail
      go_meet
      have hbz : Below wb.heap.size wb (wb.alloc (.cells #[.int .i64 (xV s), .int .i64 (yV s), .bool false, .string ⟨#[]⟩, .string ⟨#[]⟩] 23)) := (Below.refl _ wb).alloc (Nat.le_refl _) _
      have hD : DecX w (wb.alloc (.cells #[.int .i64 (xV s), .int .i64 (yV s), .bool false, .string ⟨#[]⟩, .string ⟨#[]⟩] 23)) br bx wb.heap.size (s.extract 5 s.size) 0 0 (xV s) (yV s) false ⟨#[]⟩ ⟨#[]⟩ :=
        ⟨H0.out.1.below hbz, H0.out.2.1.below hbz, TB.new wb _ _ _ _ _, H0.out.2.2.1.trans (hbz.mono H0b.out.size), H0.out.2.2.2.1, H0.out.2.2.2.2, H0.out.2.1.lt⟩
      exact ⟨_, rfl, ⟨hD.res, ⟨hD.rd.str, hD.rd.at', hD.rd.err, hD.rd.f1, hD.rd.f2, hD.rd.le⟩, hD.tb, ⟨hD.bel.os, hD.bel.tape, hD.bel.output, hD.bel.size, hD.bel.block⟩, hD.n0, hD.n1, hD.n2⟩⟩)
  case rest =>
    obtain ⟨g, rfl, HS⟩ := hcut
    clear HRBe H0b H0 CO HWB HBR HBX
    have HB5 : Hid (bodyV s = ((textOut (s.extract 5 s.size) 24).1, (stepT (textOut (s.extract 5 s.size) 24).2.1 (textOut (s.extract 5 s.size) 24).2.2 64).1, (stepT (textOut (s.extract 5 s.size) 24).2.1 (textOut (s.extract 5 s.size) 24).2.2 64).2.1, (stepT (textOut (s.extract 5 s.size) 24).2.1 (textOut (s.extract 5 s.size) 24).2.2 64).2.2)) := rfl
    generalize s.extract 5 s.size = R at *
    have hd0 : dropS R 0 = R := by unfold dropS; simp
    have CT1 := Lib.hid (fun w h => rftext_c bx R 0 24 w h hRs)
    rw [hd0] at CT1
    have CT2 := Lib.hid (fun (a : Nat) (w : World) (h : RfV w bx R a (textOut R 24).2.2) hr => rftext_any bx R (textOut R 24).2.1 a (textOut R 24).2.2 64 w h hr hRs)
    generalize textOut R 24 = o at CT1 CT2 HB5
    obtain ⟨k, r1, c1⟩ := o
    generalize stepT (k, r1, c1).2.1 (k, r1, c1).2.2 64 = p at CT2 HB5
    obtain ⟨v, r2, c2⟩ := p
    have HD : Hid (decV s = if 5 ≤ s.size ∧ (1 = 1 ∨ 1 = 3) ∧ endV r2.size c2 = 0 ∧ encok (xV s) (yV s) k v = true then some (((xV s : Nat) : Int), ((yV s : Nat) : Int), false, k, v) else none) := by
      unfold Hid decV; rw [HB5.out, hh]; rfl
    have HED := Lib.hid (enc_dec s (xV s) (yV s) false k v)
    generalize xV s = X at *
    generalize yV s = Y at *
    obtain ⟨S, E, _, CR, hE⟩ := enc_both X Y false k v
    have HE := Lib.hid hE
    have H5 := Lib.hid h5
    clear hE hd0 hh hRs hs hi1 hi3 hi5 hb0 hg0 h5
    go_wp2_with fail
    refine (CT1.out _ HS.out.rd).mono ?_
    rintro e w2 ⟨rfl, ⟨a1, hr2, ho2⟩, hg2⟩
    have H2 := Lib.hid ((HS.out.read hg2 hr2))
    have HO2 : Hid (c1 = 0 → r1 = dropS R a1) := ho2
    have q0 := H2.out.tb.cell
    obtain ⟨t0, t1, t2, t3, t4⟩ := q0
    have tf3 := H2.out.tb.fr 3
    have H3 := Lib.hid (H2.out.key k)
    clear hr2 ho2 hg2 HS CT1
    go_wp2_with fail
    generalize w2.setCell ⟨g, 3, none⟩ (.string k) = w3 at H3 ⊢
    clear t0 t1 t2 t3 t4 tf3 H2
    refine (CT2.out a1 _ H3.out.rd HO2.out).mono ?_
    rintro e w4 ⟨rfl, ⟨a2, hr4, ho4⟩, hg4⟩
    have H4 := Lib.hid ((H3.out.read hg4 hr4))
    have HEV : Hid (endV (leftV R a2 c2) c2 = 0 ↔ endV r2.size c2 = 0) := end_same ho4
    obtain ⟨t0, t1, t2, t3, t4⟩ := H4.out.tb.cell
    have tf4 := H4.out.tb.fr 4
    have H5b := Lib.hid (H4.out.val v)
    clear hr4 ho4 hg4 H3 CT2 HO2
    go_wp2_with fail
    generalize w4.setCell ⟨g, 4, none⟩ (.string v) = w5 at H5b ⊢
    clear t0 t1 t2 t3 t4 tf4 H4
    refine (CR.out _).mono ?_
    rintro e w6 ⟨rfl, hb⟩
    have H6 := Lib.hid (H5b.out.below hb)
    clear hb H5b CR
    go_wp2_with fail
    refine (rend_c bx R a2 c2 _ H6.out.rd).mono ?_
    rintro e w7 ⟨rfl, hb⟩
    have H7 := Lib.hid (H6.out.below hb)
    clear hb H6
    obtain ⟨t0, t1, t2, t3, t4⟩ := H7.out.tb.cell
    obtain ⟨u0, u1, u2, u3, u4⟩ := H7.out.res.cell
    have uf0 := H7.out.res.fr 0
    have uf1 := H7.out.res.fr 1
    have uf2 := H7.out.res.fr 2
    have uf3 := H7.out.res.fr 3
    have uf4 := H7.out.res.fr 4
    have HZB := Lib.hid (set5_below H7.out.bel H7.out.n0 (.int .i64 0) (.int .i64 0) (.bool false) (.string ⟨#[]⟩) (.string ⟨#[]⟩))
    have HZ := Lib.hid (TB.setAll H7.out.res 0 0 false ⟨#[]⟩ ⟨#[]⟩)
    have HAB := Lib.hid (set5_below H7.out.bel H7.out.n0 (.int .i64 X) (.int .i64 Y) (.bool false) (.string k) (.string v))
    have HA := Lib.hid (TB.setAll H7.out.res X Y false k v)
    generalize endV (leftV R a2 c2) c2 = E1 at *
    generalize endV r2.size c2 = E2 at *
    by_cases hE1 : E1 = 0
    · have HE2 : Hid (E2 = 0) := HEV.out.1 hE1
      subst hE1
      rcases HE.out with ⟨hE0, hS, hk⟩ | ⟨hE0, _, hk⟩
      · subst hE0
        have HY : Hid (decV s = some ((X : Int), (Y : Int), false, k, v)) := by unfold Hid; rw [HD.out, if_pos]; exact ⟨H5.out, by decide, HE2.out, hk⟩
        have hse : S = s := by rw [hS, ← (HED.out HY.out).1]
        clear hS hk HE
        subst hse
        go_wp2_with fail
        refine ret_cell rfl br _ _ _ _ rfl HA.out Try.underlying23 rfl (by kernel_rfl) rfl ?_
        rw [HY.out]
        exact ⟨rfl, HAB.out⟩
      · subst hE0
        have HK := Lib.hid hk
        clear hk HE
        have HN : Hid (decV s = none) := by unfold Hid; rw [HD.out, if_neg]; rintro ⟨q1, q2, q3, q4⟩; exact HK.out q4
        go_wp2_with fail
        refine ret_cell rfl br _ _ _ _ rfl HZ.out Try.underlying23 rfl (by kernel_rfl) rfl ?_
        rw [HN.out]
        exact ⟨rfl, HZB.out⟩
    · have hE3 : (E1 == 0) = false := by rw [beq_eq_false_iff_ne]; exact hE1
      have hE4 : (E1 != 0) = true := by simp [bne, hE3]
      have HE9 := Lib.hid hE1
      clear hE1 HE
      have HN : Hid (decV s = none) := by unfold Hid; rw [HD.out, if_neg]; rintro ⟨q1, q2, q3, q4⟩; exact HE9.out (HEV.out.2 q3)
      go_wp2_with fail
      refine ret_cell rfl br _ _ _ _ rfl HZ.out Try.underlying23 rfl (by kernel_rfl) rfl ?_
      rw [HN.out]
      exact ⟨rfl, HZB.out⟩
set_option maxRecDepth 100000 in
set_option maxHeartbeats 8000000 in
theorem rdec_3 (s : ByteArray) (w : World) (hs : s.size ≤ 9223372036854775000) (h5 : 5 ≤ s.size) (hb0 : s[0].toNat = 3) :
    Calls Try.prog 19 #[.string s] w fun e w' => e = .returned (decRes (decV s)) ∧ Below w.heap.size w w' := by
  have hg0 : 0 < s.size := by omega
  have hh : hd s = 3 := by rw [← hd_eq s hg0]; exact hb0
  have hi1 : (1 : Int) ≤ (s.size : Int) := by omega
  have hi3 : (3 : Int) ≤ (s.size : Int) := by omega
  have hi5 : (5 : Int) ≤ (s.size : Int) := by omega
  have CO := Lib.hid (fun (t : ByteArray) (w : World) (h : t.size ≤ 9223372036854775807) => rof_c t w h)
  have hRs : (s.extract 5 s.size).size ≤ 9223372036854775000 := by rw [ByteArray.size_extract]; omega
  obtain ⟨wb, hwb⟩ : ∃ wb, wb = (w.alloc (.cells #[.int .i64 0, .int .i64 0, .bool false, .string ⟨#[]⟩, .string ⟨#[]⟩] 23)).alloc (.cells #[.string (s.extract 5 s.size), .int .i64 0, .int .i64 0] 59) := ⟨_, rfl⟩
  obtain ⟨br, hbr⟩ : ∃ br, br = w.heap.size := ⟨_, rfl⟩
  obtain ⟨bx, hbx⟩ : ∃ bx, bx = w.heap.size + 1 := ⟨_, rfl⟩
  have HWB := Lib.hid hwb
  have HBR := Lib.hid hbr
  have HBX := Lib.hid hbx
  have H0 : Hid (TB wb br 0 0 false ⟨#[]⟩ ⟨#[]⟩ ∧ RfV wb bx (s.extract 5 s.size) 0 0 ∧ Below w.heap.size w wb ∧ w.heap.size ≤ br ∧ br < bx) := by
    rw [hwb, hbr, hbx]
    have e := heap_alloc2_new w (.cells #[.int .i64 0, .int .i64 0, .bool false, .string ⟨#[]⟩, .string ⟨#[]⟩] 23) (.cells #[.string (s.extract 5 s.size), .int .i64 0, .int .i64 0] 59)
    refine ⟨heap_alloc2_old w _ _, ⟨?_, ?_, ?_, ?_, ?_, Nat.zero_le _⟩, ((Below.refl _ w).alloc (Nat.le_refl _) _).alloc (by simp) _, Nat.le_refl _, Nat.lt_succ_self _⟩
    · simp only [World.cell?, e]; rfl
    · simp only [World.cell?, e]; rfl
    · simp only [World.cell?, e]; rfl
    · exact frozen_of_row _ _ _ _ _ e
    · exact frozen_of_row _ _ _ _ _ e
  clear hwb hbr hbx
  go_enter Try.func19, Try.ntmps19
  go_upto_region 4 with (fail)
  rw [← HWB.out, ← HBX.out, ← HBR.out]
  have HRBe : Hid (TB wb.drew br 0 0 false ⟨#[]⟩ ⟨#[]⟩) := H0.out.1
  have H0b : Hid (Below w.heap.size w wb) := H0.out.2.2.1
  go_cut [5] (fun s5 wx => ∃ g, s5 = .pointer (some ⟨g, 0, none⟩) ∧ Hid (DecX w wx br bx g (s.extract 5 s.size) 0 0 (xV s) (yV s) true ⟨#[]⟩ ⟨#[]⟩))
  case first =>
    go_region_held3 (fun w' => TB w' br 0 0 false ⟨#[]⟩ ⟨#[]⟩) ((first | exact HRBe.out | exact TB.below HRBe.out ((Below.refl _ _).alloc (Nat.le_refl _) _))) (first | (go_at_call 38; refine (CO.out _ _ (by rw [ByteArray.size_extract]; omega)).mono ?_; rintro e w2 ⟨rfl, rfl⟩))
    all_goals (
      go_wp2_with fail
      go_meet
      have hbz : Below wb.heap.size wb (wb.alloc (.cells #[.int .i64 (xV s), .int .i64 (yV s), .bool true, .string ⟨#[]⟩, .string ⟨#[]⟩] 23)) := (Below.refl _ wb).alloc (Nat.le_refl _) _
      have hD : DecX w (wb.alloc (.cells #[.int .i64 (xV s), .int .i64 (yV s), .bool true, .string ⟨#[]⟩, .string ⟨#[]⟩] 23)) br bx wb.heap.size (s.extract 5 s.size) 0 0 (xV s) (yV s) true ⟨#[]⟩ ⟨#[]⟩ :=
        ⟨H0.out.1.below hbz, H0.out.2.1.below hbz, TB.new wb _ _ _ _ _, H0.out.2.2.1.trans (hbz.mono H0b.out.size), H0.out.2.2.2.1, H0.out.2.2.2.2, H0.out.2.1.lt⟩
      exact ⟨_, rfl, ⟨hD.res, ⟨hD.rd.str, hD.rd.at', hD.rd.err, hD.rd.f1, hD.rd.f2, hD.rd.le⟩, hD.tb, ⟨hD.bel.os, hD.bel.tape, hD.bel.output, hD.bel.size, hD.bel.block⟩, hD.n0, hD.n1, hD.n2⟩⟩)
  case rest =>
    obtain ⟨g, rfl, HS⟩ := hcut
    clear HRBe H0b H0 CO HWB HBR HBX
    have HB5 : Hid (bodyV s = ((textOut (s.extract 5 s.size) 24).1, (stepT (textOut (s.extract 5 s.size) 24).2.1 (textOut (s.extract 5 s.size) 24).2.2 64).1, (stepT (textOut (s.extract 5 s.size) 24).2.1 (textOut (s.extract 5 s.size) 24).2.2 64).2.1, (stepT (textOut (s.extract 5 s.size) 24).2.1 (textOut (s.extract 5 s.size) 24).2.2 64).2.2)) := rfl
    generalize s.extract 5 s.size = R at *
    have hd0 : dropS R 0 = R := by unfold dropS; simp
    have CT1 := Lib.hid (fun w h => rftext_c bx R 0 24 w h hRs)
    rw [hd0] at CT1
    have CT2 := Lib.hid (fun (a : Nat) (w : World) (h : RfV w bx R a (textOut R 24).2.2) hr => rftext_any bx R (textOut R 24).2.1 a (textOut R 24).2.2 64 w h hr hRs)
    generalize textOut R 24 = o at CT1 CT2 HB5
    obtain ⟨k, r1, c1⟩ := o
    generalize stepT (k, r1, c1).2.1 (k, r1, c1).2.2 64 = p at CT2 HB5
    obtain ⟨v, r2, c2⟩ := p
    have HD : Hid (decV s = if 5 ≤ s.size ∧ (3 = 1 ∨ 3 = 3) ∧ endV r2.size c2 = 0 ∧ encok (xV s) (yV s) k v = true then some (((xV s : Nat) : Int), ((yV s : Nat) : Int), true, k, v) else none) := by
      unfold Hid decV; rw [HB5.out, hh]; rfl
    have HED := Lib.hid (enc_dec s (xV s) (yV s) true k v)
    generalize xV s = X at *
    generalize yV s = Y at *
    obtain ⟨S, E, _, CR, hE⟩ := enc_both X Y true k v
    have HE := Lib.hid hE
    have H5 := Lib.hid h5
    clear hE hd0 hh hRs hs hi1 hi3 hi5 hb0 hg0 h5
    go_wp2_with fail
    refine (CT1.out _ HS.out.rd).mono ?_
    rintro e w2 ⟨rfl, ⟨a1, hr2, ho2⟩, hg2⟩
    have H2 := Lib.hid ((HS.out.read hg2 hr2))
    have HO2 : Hid (c1 = 0 → r1 = dropS R a1) := ho2
    have q0 := H2.out.tb.cell
    obtain ⟨t0, t1, t2, t3, t4⟩ := q0
    have tf3 := H2.out.tb.fr 3
    have H3 := Lib.hid (H2.out.key k)
    clear hr2 ho2 hg2 HS CT1
    go_wp2_with fail
    generalize w2.setCell ⟨g, 3, none⟩ (.string k) = w3 at H3 ⊢
    clear t0 t1 t2 t3 t4 tf3 H2
    refine (CT2.out a1 _ H3.out.rd HO2.out).mono ?_
    rintro e w4 ⟨rfl, ⟨a2, hr4, ho4⟩, hg4⟩
    have H4 := Lib.hid ((H3.out.read hg4 hr4))
    have HEV : Hid (endV (leftV R a2 c2) c2 = 0 ↔ endV r2.size c2 = 0) := end_same ho4
    obtain ⟨t0, t1, t2, t3, t4⟩ := H4.out.tb.cell
    have tf4 := H4.out.tb.fr 4
    have H5b := Lib.hid (H4.out.val v)
    clear hr4 ho4 hg4 H3 CT2 HO2
    go_wp2_with fail
    generalize w4.setCell ⟨g, 4, none⟩ (.string v) = w5 at H5b ⊢
    clear t0 t1 t2 t3 t4 tf4 H4
    refine (CR.out _).mono ?_
    rintro e w6 ⟨rfl, hb⟩
    have H6 := Lib.hid (H5b.out.below hb)
    clear hb H5b CR
    go_wp2_with fail
    refine (rend_c bx R a2 c2 _ H6.out.rd).mono ?_
    rintro e w7 ⟨rfl, hb⟩
    have H7 := Lib.hid (H6.out.below hb)
    clear hb H6
    obtain ⟨t0, t1, t2, t3, t4⟩ := H7.out.tb.cell
    obtain ⟨u0, u1, u2, u3, u4⟩ := H7.out.res.cell
    have uf0 := H7.out.res.fr 0
    have uf1 := H7.out.res.fr 1
    have uf2 := H7.out.res.fr 2
    have uf3 := H7.out.res.fr 3
    have uf4 := H7.out.res.fr 4
    have HZB := Lib.hid (set5_below H7.out.bel H7.out.n0 (.int .i64 0) (.int .i64 0) (.bool false) (.string ⟨#[]⟩) (.string ⟨#[]⟩))
    have HZ := Lib.hid (TB.setAll H7.out.res 0 0 false ⟨#[]⟩ ⟨#[]⟩)
    have HAB := Lib.hid (set5_below H7.out.bel H7.out.n0 (.int .i64 X) (.int .i64 Y) (.bool true) (.string k) (.string v))
    have HA := Lib.hid (TB.setAll H7.out.res X Y true k v)
    generalize endV (leftV R a2 c2) c2 = E1 at *
    generalize endV r2.size c2 = E2 at *
    by_cases hE1 : E1 = 0
    · have HE2 : Hid (E2 = 0) := HEV.out.1 hE1
      subst hE1
      rcases HE.out with ⟨hE0, hS, hk⟩ | ⟨hE0, _, hk⟩
      · subst hE0
        have HY : Hid (decV s = some ((X : Int), (Y : Int), true, k, v)) := by unfold Hid; rw [HD.out, if_pos]; exact ⟨H5.out, by decide, HE2.out, hk⟩
        have hse : S = s := by rw [hS, ← (HED.out HY.out).1]
        clear hS hk HE
        subst hse
        go_wp2_with fail
        refine ret_cell rfl br _ _ _ _ rfl HA.out Try.underlying23 rfl (by kernel_rfl) rfl ?_
        rw [HY.out]
        exact ⟨rfl, HAB.out⟩
      · subst hE0
        have HK := Lib.hid hk
        clear hk HE
        have HN : Hid (decV s = none) := by unfold Hid; rw [HD.out, if_neg]; rintro ⟨q1, q2, q3, q4⟩; exact HK.out q4
        go_wp2_with fail
        refine ret_cell rfl br _ _ _ _ rfl HZ.out Try.underlying23 rfl (by kernel_rfl) rfl ?_
        rw [HN.out]
        exact ⟨rfl, HZB.out⟩
    · have hE3 : (E1 == 0) = false := by rw [beq_eq_false_iff_ne]; exact hE1
      have hE4 : (E1 != 0) = true := by simp [bne, hE3]
      have HE9 := Lib.hid hE1
      clear hE1 HE
      have HN : Hid (decV s = none) := by unfold Hid; rw [HD.out, if_neg]; rintro ⟨q1, q2, q3, q4⟩; exact HE9.out (HEV.out.2 q3)
      go_wp2_with fail
      refine ret_cell rfl br _ _ _ _ rfl HZ.out Try.underlying23 rfl (by kernel_rfl) rfl ?_
      rw [HN.out]
      exact ⟨rfl, HZB.out⟩
set_option maxRecDepth 100000 in
set_option maxHeartbeats 2000000 in
theorem rdec_no (s : ByteArray) (w : World) (h : ¬ (5 ≤ s.size ∧ (hd s = 1 ∨ hd s = 3))) :
    Calls Try.prog 19 #[.string s] w fun e w' => e = .returned (decRes (decV s)) ∧ Below w.heap.size w w' := by
  have HN : Hid (decV s = none) := by unfold Hid decV; rw [if_neg]; exact fun q => h ⟨q.1, q.2.1⟩
  by_cases h5 : 5 ≤ s.size
  · have hg0 : 0 < s.size := by omega
    have hb0 := hd_eq s hg0
    have h1 : ((s[0].toNat : Int) == 1) = false := by rw [beq_eq_false_iff_ne]; omega
    have h3 : ((s[0].toNat : Int) == 3) = false := by rw [beq_eq_false_iff_ne]; omega
    have h1' : ((s[0].toNat : Int) != 1) = true := by simp [bne, h1]
    have h3' : ((s[0].toNat : Int) != 3) = true := by simp [bne, h3]
    have hi5 : (5 : Int) ≤ (s.size : Int) := by omega
    clear h hb0
    go_enter Try.func19, Try.ntmps19
    go_wp2_with fail
    refine ret_cell rfl w.heap.size _ _ _ _ rfl (TB.new w 0 0 false ⟨#[]⟩ ⟨#[]⟩) Try.underlying23 rfl (by kernel_rfl) rfl ?_
    rw [HN.out]
    exact ⟨rfl, (Below.refl _ w).alloc (Nat.le_refl _) _⟩
  · clear h
    go_enter Try.func19, Try.ntmps19
    go_wp2_with fail
    refine ret_cell rfl w.heap.size _ _ _ _ rfl (TB.new w 0 0 false ⟨#[]⟩ ⟨#[]⟩) Try.underlying23 rfl (by kernel_rfl) rfl ?_
    rw [HN.out]
    exact ⟨rfl, (Below.refl _ w).alloc (Nat.le_refl _) _⟩
theorem rdec_c (s : ByteArray) (w : World) (hs : s.size ≤ 9223372036854775000) :
    Calls Try.prog 19 #[.string s] w fun e w' => e = .returned (decRes (decV s)) ∧ Below w.heap.size w w' := by
  by_cases h : 5 ≤ s.size ∧ (hd s = 1 ∨ hd s = 3)
  · obtain ⟨h5, h1 | h1⟩ := h
    · exact rdec_1 s w hs h5 (by rw [hd_eq s (by omega)]; exact h1)
    · exact rdec_3 s w hs h5 (by rw [hd_eq s (by omega)]; exact h1)
  · exact rdec_no s w h
end Go.Proofs.Ytioinjnignajnaa
