/- Statuses: the walk of ClogKeeps. -/
import Derived.Test.YtpmhcpphbilokaaClogO
import Derived.Test.YtpmhcpphbilokaaPgC
namespace Go.Proofs.Ytpmhcpphbilokaa
open Go.RowKit
set_option linter.unusedSimpArgs false
set_option maxRecDepth 100000

/-- The page of ClogKeeps. -/
structure KS (W wx : World) (m : Int) (bp : Nat) (f : Nat → Nat) (ap : Option Addr) (S : Nat → ByteArray) : Prop where
  lv : LV m wx bp 0 1 f ap S
  bel : Below W.heap.size W wx
  n0 : W.heap.size ≤ bp
theorem KS.below {W wx w' : World} {m : Int} {bp : Nat} {f : Nat → Nat} {ap : Option Addr} {S : Nat → ByteArray} (H : KS W wx m bp f ap S) (hb : Below wx.heap.size wx w') : KS W w' m bp f ap S :=
  ⟨H.lv.below hb, H.bel.trans (hb.mono H.bel.size), H.n0⟩
theorem KS.re {W wx w' : World} {m : Int} {bp : Nat} {f g : Nat → Nat} {ap aq : Option Addr} {S Sq : Nat → ByteArray} (H : KS W wx m bp f ap S) (Q : PR m wx 0 1 g aq Sq) (hp : PK w' bp 0 1 0 0 ⟨#[]⟩ (.slice aq 2 2)) (hg : wx.grownBy w' (some bp)) : KS W w' m bp g aq Sq :=
  ⟨⟨hp, Q.st H.lv.pk hg⟩, below_own H.bel H.n0 hg, H.n0⟩
theorem KS.kept {W wx w' : World} {m : Int} {bp : Nat} {f : Nat → Nat} {ap : Option Addr} {S : Nat → ByteArray} (H : KS W wx m bp f ap S) {b : Nat} {a0 a1 a2 a3 : Int} {u : ByteArray} {ao' : Option Addr} {n' c' : Nat} (P : PK wx b a0 a1 a2 a3 u (.slice ao' n' c')) (hg : wx.grownBy w' (some b)) (hne : bp ≠ b) (hb : W.heap.size ≤ b) : KS W w' m bp f ap S :=
  ⟨H.lv.st P hg hne, below_own H.bel hb hg, H.n0⟩
/-- Behind a Set in the loop. -/
def MidK (W wx : World) (m : Int) (bp : Nat) (f : Nat → Nat) (ap : Option Addr) (S : Nat → ByteArray) (bq : Nat) (E : Int) : Prop :=
  KS W wx m bp f ap S ∧ (E = 1 ∨ (E = 0 ∧ ∃ g aq Sq, LV m wx bq 0 1 g aq Sq))
theorem midK_of {W w' : World} {m : Int} {bp : Nat} {f : Nat → Nat} {ap : Option Addr} {S : Nat → ByteArray} {x s : Int} {ls k : Int} {aq : Option Addr} {nq : Nat} {Sq : Nat → ByteArray} {bq : Nat}
    (H : KS W w' m bp f ap S) (hs : StrsIn w' aq nq Sq) (hp : PgS (setR m 0 1 f x s) ls k nq Sq) (hq : PK w' bq ls k 0 0 ⟨#[]⟩ (.slice aq nq nq)) : MidK W w' m bp f ap S bq (setR m 0 1 f x s).1 := by
  refine ⟨H, ?_⟩
  by_cases hA : okx m x = true ∧ s ≤ 3
  · have e1 : setR m 0 1 f x s = (0, 0, 1, bsOf (upd f (x - 1).toNat s.toNat) (sz m)) := by unfold setR; rw [if_pos hA]
    rw [e1] at hp ⊢
    obtain ⟨rfl, rfl, rfl, h3⟩ := pr_of hp hs H.lv.pr.hm H.lv.pr.hF (by decide) (set_ok H.lv.pr.hf hA.1 hA.2)
    exact .inr ⟨rfl, _, _, _, hq, h3⟩
  · have e1 : setR m 0 1 f x s = (1, 0, 0, []) := by unfold setR; rw [if_neg hA]
    rw [e1]
    exact .inl rfl
theorem lv_encode {m : Int} {w : World} {b : Nat} {f : Nat → Nat} {ao : Option Addr} {S : Nat → ByteArray} (H : LV m w b 0 1 f ao S) :
    Calls Try.prog 23 #[.agg #[.int .i64 0, .int .i64 1, .int .i64 0, .int .i64 0, .string ⟨#[]⟩, .slice ao 2 2]] w fun e w' => (∃ s, e = .returned (.tuple #[.string s, .int .i64 0])) ∧ Below w.heap.size w w' := by
  refine encode_c ao S w H.pr.it ?_ ?_
  · rw [H.pr.s0]; unfold numS; rw [size_arr]
    have := sev_len (n := (1 : Int).toNat) (by decide)
    omega
  · rw [H.pr.s1, size_arr, bsOf_len]
    exact (sz_int H.pr.hm).2.2

set_option maxHeartbeats 4000000 in
theorem clogKeeps_w (m : Int) (ao : Option Addr) (len cap : Nat) (C : Nat → Bool) (X T : Nat → Int) (x y : Int) (w : World) (hlen : len ≤ 9223372036854775807) (ho : OpsIn w ao len C X T) :
    Calls Try.prog 7 #[.int .i64 m, .slice ao len cap, .agg #[.int .i64 x, .int .i64 y]] w fun e w' => e = .returned (.bool true) ∧ Below w.heap.size w w' := by
  obtain ⟨wb, hwb⟩ : ∃ wb, wb = w.alloc (.cells #[.int .i64 x, .int .i64 y] 48) := ⟨_, rfl⟩
  have D0 : Hid (Below w.heap.size w wb) := by rw [hwb]; exact (Below.refl _ w).alloc (Nat.le_refl _) _
  have HWB := Lib.hid hwb
  have HO := Lib.hid ho
  clear hwb ho
  go_enter Try.func7, Try.ntmps7
  go_wp2_with fail
  rw [← HWB.out]
  clear HWB
  refine (blank_c m 1 wb).mono ?_
  rintro e w1 ⟨⟨ls1, k1, ao1, n1, S1, rfl, hs1, hp1⟩, hb1⟩
  have D1 := Lib.hid (D0.out.trans (hb1.mono D0.out.size))
  have hip := pg_new w1
  have HN1 : Hid (w.heap.size ≤ w1.heap.size) := D1.out.size
  clear D0 hb1
  cases hm : okm m
  · have e1 : blV m 1 = (1, 0, 0, []) := by unfold blV; rw [hm]; rfl
    rw [e1]
    clear e1 hp1 hs1
    have D1' := D1
    go_wp2_with (refine wpList_st_page' rfl _ _ rfl w1.heap.size rfl _ _ _ _ _ _ rfl rfl hip (fun w2 hp2 hg2 => ?_); have D2 := Lib.hid (D1'.out.trans ((new_below hg2).mono D1'.out.size)); clear hg2 hp2)
    clear D1 D1'
    refine (awake_k _).mono ?_
    rintro e w3 ⟨rfl, hb3⟩
    have D3 := Lib.hid (D2.out.trans (hb3.mono D2.out.size))
    clear hb3
    go_wp2_with fail
    go_ret
    exact ⟨rfl, D3.out⟩
  have hF : okx m 1 = true := okx_yes (by omega) (by have := okm_bd hm; omega)
  have e1 : blV m 1 = (0, 0, 1, bsOf (fun _ => 0) (sz m)) := by unfold blV; rw [hm, hF]; rfl
  rw [e1] at hp1 ⊢
  clear e1
  obtain ⟨rfl, rfl, rfl, h1⟩ := pr_of hp1 hs1 hm hF (by decide) (okf_zero _)
  have H1 := Lib.hid h1
  clear h1 hp1 hs1
  have HM := Lib.hid hm
  have HF := Lib.hid hF
  clear hm hF
  go_wp2_with (refine wpList_st_page' rfl _ _ rfl w1.heap.size rfl _ _ _ _ _ _ rfl rfl hip (fun w2 hp2 hg2 => ?_); have T2 : Hid (KS w w2 m w1.heap.size (fun _ => 0) ao1 S1) := (by exact ⟨⟨hp2, H1.out.below (new_below hg2)⟩, D1.out.trans ((new_below hg2).mono D1.out.size), HN1.out⟩); clear hg2 hp2)
  clear hip D1 H1
  generalize w1.heap.size = bp at *
  go_loopw [11] (fun i wr => ∃ k : Nat, k ≤ len ∧ i = .int .i64 k ∧ ∃ f ap S, Hid (KS w wr m bp f ap S)) (fun i _ => len - (intOf i).toNat)
  case atStart => exact ⟨0, Nat.zero_le _, rfl, _, _, _, T2.out⟩
  case round =>
    obtain ⟨k, hk, rfl, f, ap, S, HK⟩ := hrel
    by_cases hlt : k < len
    · obtain ⟨b, off, rfl, hx0, hx1, hx2, ht0⟩ := HO.out.at hlt
      have HX1 := Lib.hid hx1
      have HX2 := Lib.hid hx2
      have HT0 := Lib.hid ht0
      generalize X k = xx at *
      generalize T k = ss at *
      clear hx0 hx1 hx2 ht0
      go_upto_region 9 with (fail)
      go_cut [12, 13] (fun s10 s11 wx => ∃ (bq : Nat) (E : Int), s10 = .pointer (some ⟨bq, 0, none⟩) ∧ s11 = .int .i64 E ∧ Hid (MidK w wx m bp f ap S bq E))
      case first =>
        have HKd := Lib.hid (HK.out.below (by exact (Below.refl _ _).drew))
        refine wp_region_held_drew (S := fun w' => KS w w' m bp f ap S) (by kernel_rfl) HKd.out (fun hHeld => ?_)
        refine take_op (i := 0) (d := some 49) (v := ?_) rfl rfl (by kernel_rfl) (by kernel_rfl) (by kernel_rfl) (fun _ _ _ h => h) (Or.inl ⟨by rfl, ?_⟩) (by assumption) ?_
        rotate_left
        · (intro w' hSw; (try dsimp only at hSw); obtain ⟨c0, c1, c2, c3, c4, c5⟩ := hSw.lv.pk.cell; have x1 := bel_at hSw.bel HX1.out; have x2 := bel_at hSw.bel HX2.out; go_simp; try (with_reducible rfl))
        try simp only [Act.put, List.setIfInBounds_toArray, List.set_cons_zero, List.set_cons_succ]
        refine take_op (i := 1) (d := some 50) (v := ?_) rfl rfl (by kernel_rfl) (by kernel_rfl) (by kernel_rfl) (fun _ _ _ h => h) (Or.inl ⟨by rfl, ?_⟩) (by assumption) ?_
        rotate_left
        · (intro w' hSw; (try dsimp only at hSw); obtain ⟨c0, c1, c2, c3, c4, c5⟩ := hSw.lv.pk.cell; have x1 := bel_at hSw.bel HX1.out; have x2 := bel_at hSw.bel HX2.out; go_simp; try (with_reducible rfl))
        try simp only [Act.put, List.setIfInBounds_toArray, List.set_cons_zero, List.set_cons_succ]
        refine take_op (i := 2) (d := some 51) (v := ?_) rfl rfl (by kernel_rfl) (by kernel_rfl) (by kernel_rfl) (fun _ _ _ h => h) (Or.inl ⟨by rfl, ?_⟩) (by assumption) ?_
        rotate_left
        · (intro w' hSw; (try dsimp only at hSw); obtain ⟨c0, c1, c2, c3, c4, c5⟩ := hSw.lv.pk.cell; have x1 := bel_at hSw.bel HX1.out; have x2 := bel_at hSw.bel HX2.out; go_simp; try (with_reducible rfl))
        try simp only [Act.put, List.setIfInBounds_toArray, List.set_cons_zero, List.set_cons_succ]
        refine take_op (i := 3) (d := some 52) (v := ?_) rfl rfl (by kernel_rfl) (by kernel_rfl) (by kernel_rfl) (fun _ _ _ h => h) (Or.inl ⟨by rfl, ?_⟩) (by assumption) ?_
        rotate_left
        · (intro w' hSw; (try dsimp only at hSw); obtain ⟨c0, c1, c2, c3, c4, c5⟩ := hSw.lv.pk.cell; have x1 := bel_at hSw.bel HX1.out; have x2 := bel_at hSw.bel HX2.out; go_simp; try (with_reducible rfl))
        try simp only [Act.put, List.setIfInBounds_toArray, List.set_cons_zero, List.set_cons_succ]
        refine take_op (i := 4) (d := some 53) (v := ?_) rfl rfl (by kernel_rfl) (by kernel_rfl) (by kernel_rfl) (fun _ _ _ h => h) (Or.inl ⟨by rfl, ?_⟩) (by assumption) ?_
        rotate_left
        · (intro w' hSw; (try dsimp only at hSw); obtain ⟨c0, c1, c2, c3, c4, c5⟩ := hSw.lv.pk.cell; have x1 := bel_at hSw.bel HX1.out; have x2 := bel_at hSw.bel HX2.out; go_simp; try (with_reducible rfl))
        try simp only [Act.put, List.setIfInBounds_toArray, List.set_cons_zero, List.set_cons_succ]
        refine take_op (i := 5) (d := some 54) (v := ?_) rfl rfl (by kernel_rfl) (by kernel_rfl) (by kernel_rfl) (fun _ _ _ h => h) (Or.inl ⟨by rfl, ?_⟩) (by assumption) ?_
        rotate_left
        · (intro w' hSw; (try dsimp only at hSw); obtain ⟨c0, c1, c2, c3, c4, c5⟩ := hSw.lv.pk.cell; have x1 := bel_at hSw.bel HX1.out; have x2 := bel_at hSw.bel HX2.out; go_simp; try (with_reducible rfl))
        try simp only [Act.put, List.setIfInBounds_toArray, List.set_cons_zero, List.set_cons_succ]
        refine take_op (i := 6) (d := some 55) (v := ?_) rfl rfl (by kernel_rfl) (by kernel_rfl) (by kernel_rfl) (fun _ _ _ h => h) (Or.inl ⟨by rfl, ?_⟩) (by assumption) ?_
        rotate_left
        · (intro w' hSw; (try dsimp only at hSw); obtain ⟨c0, c1, c2, c3, c4, c5⟩ := hSw.lv.pk.cell; have x1 := bel_at hSw.bel HX1.out; have x2 := bel_at hSw.bel HX2.out; go_simp; try (with_reducible rfl))
        try simp only [Act.put, List.setIfInBounds_toArray, List.set_cons_zero, List.set_cons_succ]
        refine take_op (i := 7) (d := some 56) (v := ?_) rfl rfl (by kernel_rfl) (by kernel_rfl) (by kernel_rfl) (fun _ _ _ h => h) (Or.inl ⟨by rfl, ?_⟩) (by assumption) ?_
        rotate_left
        · (intro w' hSw; (try dsimp only at hSw); obtain ⟨c0, c1, c2, c3, c4, c5⟩ := hSw.lv.pk.cell; have x1 := bel_at hSw.bel HX1.out; have x2 := bel_at hSw.bel HX2.out; go_simp; try (with_reducible rfl))
        try simp only [Act.put, List.setIfInBounds_toArray, List.set_cons_zero, List.set_cons_succ]
        refine take_op (i := 8) (d := some 57) (v := ?_) rfl rfl (by kernel_rfl) (by kernel_rfl) (by kernel_rfl) (fun _ _ _ h => h) (Or.inl ⟨by rfl, ?_⟩) (by assumption) ?_
        rotate_left
        · (intro w' hSw; (try dsimp only at hSw); obtain ⟨c0, c1, c2, c3, c4, c5⟩ := hSw.lv.pk.cell; have x1 := bel_at hSw.bel HX1.out; have x2 := bel_at hSw.bel HX2.out; go_simp; try (with_reducible rfl))
        try simp only [Act.put, List.setIfInBounds_toArray, List.set_cons_zero, List.set_cons_succ]
        refine take_op (i := 9) (d := some 58) (v := ?_) rfl rfl (by kernel_rfl) (by kernel_rfl) (by kernel_rfl) (fun _ _ _ h => h) (Or.inl ⟨by rfl, ?_⟩) (by assumption) ?_
        rotate_left
        · (intro w' hSw; (try dsimp only at hSw); obtain ⟨c0, c1, c2, c3, c4, c5⟩ := hSw.lv.pk.cell; have x1 := bel_at hSw.bel HX1.out; have x2 := bel_at hSw.bel HX2.out; go_simp; try (with_reducible rfl))
        try simp only [Act.put, List.setIfInBounds_toArray, List.set_cons_zero, List.set_cons_succ]
        refine take_op (i := 10) (d := some 59) (v := ?_) rfl rfl (by kernel_rfl) (by kernel_rfl) (by kernel_rfl) (fun _ _ _ h => h) (Or.inl ⟨by rfl, ?_⟩) (by assumption) ?_
        rotate_left
        · (intro w' hSw; (try dsimp only at hSw); obtain ⟨c0, c1, c2, c3, c4, c5⟩ := hSw.lv.pk.cell; have x1 := bel_at hSw.bel HX1.out; have x2 := bel_at hSw.bel HX2.out; go_simp; try (with_reducible rfl))
        try simp only [Act.put, List.setIfInBounds_toArray, List.set_cons_zero, List.set_cons_succ]
        refine take_op (i := 11) (d := some 60) (v := ?_) rfl rfl (by kernel_rfl) (by kernel_rfl) (by kernel_rfl) (fun _ _ _ h => h) (Or.inl ⟨by rfl, ?_⟩) (by assumption) ?_
        rotate_left
        · (intro w' hSw; (try dsimp only at hSw); obtain ⟨c0, c1, c2, c3, c4, c5⟩ := hSw.lv.pk.cell; have x1 := bel_at hSw.bel HX1.out; have x2 := bel_at hSw.bel HX2.out; go_simp; try (with_reducible rfl))
        try simp only [Act.put, List.setIfInBounds_toArray, List.set_cons_zero, List.set_cons_succ]
        refine wpAnyH_ready (rs := [12, 16]) (by kernel_rfl) (by simp) ?_
        refine AllReadyH.cons rfl (fun K hK => ?_) (AllReadyH.cons rfl (fun K hK => ?_) AllReadyH.nil)
        rotate_left
        · go_simp
          have P0 := PK.new wr.drew 0 0 0 0 ⟨#[]⟩ (.slice none 0 0)
          have HNE : Hid (bp ≠ wr.drew.heap.size) := by have := hHeld.lv.pk.lt; unfold Hid; omega
          have HNQ : Hid (w.heap.size ≤ wr.drew.heap.size) := hHeld.bel.size
          refine hK.out _ _ (hHeld.below ((Below.refl _ _).alloc (Nat.le_refl _) _)) (fun hHeld => ?_)
          clear hK K
          try simp only [Act.put, List.setIfInBounds_toArray, List.set_cons_zero, List.set_cons_succ]
          refine wpAnyH_ready (rs := [12]) (by kernel_rfl) (by simp) ?_
          refine AllReadyH.cons rfl (fun K hK => ?_) AllReadyH.nil
          go_simp
          refine (pr_set m 0 1 xx ss _ _ _ _ hHeld.lv.pr HT0.out).mono ?_
          rintro e w5 ⟨⟨ls, kk, aq, nq, Sq, rfl, hsq, hpq⟩, hb5⟩
          have HSQ := Lib.hid hsq
          have HPQ := Lib.hid hpq
          have hcs5 := hHeld.below hb5
          clear hsq hpq
          have HP5 := Lib.hid (P0.below hb5)
          clear P0 hb5
          refine hK.out _ _ hcs5 (fun hHeld => ?_)
          clear hK K
          try simp only [Act.put, List.setIfInBounds_toArray, List.set_cons_zero, List.set_cons_succ]
          obtain ⟨bq, hbq⟩ : ∃ bq, bq = wr.drew.heap.size := ⟨_, rfl⟩
          have hbq2 : bq = wr.heap.size := hbq
          rw [← hbq] at HP5 HNE HNQ
          rw [← hbq2]
          clear hbq hbq2
          refine take_op (i := 13) (d := some 48) (v := ?_) rfl rfl (by kernel_rfl) (by kernel_rfl) (by kernel_rfl) (fun _ _ _ h => h) (Or.inl ⟨by rfl, ?_⟩) (by assumption) ?_
          rotate_left
          · (intro w' hSw; (try dsimp only at hSw); go_simp; try (with_reducible rfl))
          try simp only [Act.put, List.setIfInBounds_toArray, List.set_cons_zero, List.set_cons_succ]
          refine take_op (i := 14) (d := some 62) (v := ?_) rfl rfl (by kernel_rfl) (by kernel_rfl) (by kernel_rfl) (fun _ _ _ h => h) (Or.inl ⟨by rfl, ?_⟩) (by assumption) ?_
          rotate_left
          · (intro w' hSw; (try dsimp only at hSw); go_simp; try (with_reducible rfl))
          try simp only [Act.put, List.setIfInBounds_toArray, List.set_cons_zero, List.set_cons_succ]
          refine take_op (i := 15) (d := some 63) (v := ?_) rfl rfl (by kernel_rfl) (by kernel_rfl) (by kernel_rfl) (fun _ _ _ h => h) (Or.inl ⟨by rfl, ?_⟩) (by assumption) ?_
          rotate_left
          · (intro w' hSw; (try dsimp only at hSw); go_simp; try (with_reducible rfl))
          try simp only [Act.put, List.setIfInBounds_toArray, List.set_cons_zero, List.set_cons_succ]
          refine wpAnyH_ready (rs := [17]) (by kernel_rfl) (by simp) ?_
          refine AllReadyH.cons rfl (fun K hK => ?_) AllReadyH.nil
          rw [if_pos (by rfl)]
          refine wp_st_page _ _ rfl bq rfl _ _ _ _ _ _ rfl rfl HP5.out.is ?_
          try simp only [Act.put, List.setIfInBounds_toArray, List.set_cons_zero, List.set_cons_succ]
          have hg6 := setP_grown w5 bq ls kk 0 0 ⟨#[]⟩ (.slice aq nq nq)
          have hs6 := HSQ.out.st HPQ.out.two HP5.out hg6
          have hp6 := HP5.out.is.set6 ls kk 0 0 ⟨#[]⟩ (.slice aq nq nq)
          have hc6 := hHeld.kept HP5.out hg6 HNE.out HNQ.out
          refine hK.out _ _ hc6 (fun hHeld => ?_)
          clear hK K
          try simp only [Act.put, List.setIfInBounds_toArray, List.set_cons_zero, List.set_cons_succ]
          refine take_op (i := 18) (d := some 13) (v := ?_) rfl rfl (by kernel_rfl) (by kernel_rfl) (by kernel_rfl) (fun _ _ _ h => h) (Or.inl ⟨by rfl, ?_⟩) (by assumption) ?_
          rotate_left
          · (intro w' hSw; (try dsimp only at hSw); go_simp; try (with_reducible rfl))
          try simp only [Act.put, List.setIfInBounds_toArray, List.set_cons_zero, List.set_cons_succ]
          refine wpAnyH_done (by kernel_rfl) ?_ _
          have HMC := Lib.hid (midK_of hc6 hs6 HPQ.out hp6)
          clear hg6 hs6 hp6 hc6 hHeld
          go_wp2_with fail
          go_meet
          exact ⟨_, _, rfl, rfl, HMC.out⟩
        · go_simp
          refine (pr_set m 0 1 xx ss _ _ _ _ hHeld.lv.pr HT0.out).mono ?_
          rintro e w5 ⟨⟨ls, kk, aq, nq, Sq, rfl, hsq, hpq⟩, hb5⟩
          have HSQ := Lib.hid hsq
          have HPQ := Lib.hid hpq
          have hcs5 := hHeld.below hb5
          clear hsq hpq
          have HP5 := Lib.hid (PK.new w5 0 0 0 0 ⟨#[]⟩ (.slice none 0 0))
          have HNE : Hid (bp ≠ w5.heap.size) := by have := hcs5.lv.pk.lt; unfold Hid; omega
          have HNQ : Hid (w.heap.size ≤ w5.heap.size) := hcs5.bel.size
          clear hb5
          refine hK.out _ _ hcs5 (fun hHeld => ?_)
          clear hK K
          try simp only [Act.put, List.setIfInBounds_toArray, List.set_cons_zero, List.set_cons_succ]
          refine take_op (i := 13) (d := some 48) (v := ?_) rfl rfl (by kernel_rfl) (by kernel_rfl) (by kernel_rfl) (fun _ _ _ h => h) (Or.inl ⟨by rfl, ?_⟩) (by assumption) ?_
          rotate_left
          · (intro w' hSw; (try dsimp only at hSw); go_simp; try (with_reducible rfl))
          try simp only [Act.put, List.setIfInBounds_toArray, List.set_cons_zero, List.set_cons_succ]
          refine take_op (i := 14) (d := some 62) (v := ?_) rfl rfl (by kernel_rfl) (by kernel_rfl) (by kernel_rfl) (fun _ _ _ h => h) (Or.inl ⟨by rfl, ?_⟩) (by assumption) ?_
          rotate_left
          · (intro w' hSw; (try dsimp only at hSw); go_simp; try (with_reducible rfl))
          try simp only [Act.put, List.setIfInBounds_toArray, List.set_cons_zero, List.set_cons_succ]
          refine take_op (i := 15) (d := some 63) (v := ?_) rfl rfl (by kernel_rfl) (by kernel_rfl) (by kernel_rfl) (fun _ _ _ h => h) (Or.inl ⟨by rfl, ?_⟩) (by assumption) ?_
          rotate_left
          · (intro w' hSw; (try dsimp only at hSw); go_simp; try (with_reducible rfl))
          try simp only [Act.put, List.setIfInBounds_toArray, List.set_cons_zero, List.set_cons_succ]
          refine wpAnyH_ready (rs := [16]) (by kernel_rfl) (by simp) ?_
          refine AllReadyH.cons rfl (fun K hK => ?_) AllReadyH.nil
          go_simp
          have hcs6 := hHeld.below ((Below.refl _ w5).alloc (Nat.le_refl _) (.cells #[.int .i64 0, .int .i64 0, .int .i64 0, .int .i64 0, .string ⟨#[]⟩, .slice none 0 0] 25))
          have HSQ2 := Lib.hid (HSQ.out.below ((Below.refl _ w5).alloc (Nat.le_refl _) (.cells #[.int .i64 0, .int .i64 0, .int .i64 0, .int .i64 0, .string ⟨#[]⟩, .slice none 0 0] 25)) rfl)
          clear HSQ
          refine hK.out _ _ hcs6 (fun hHeld => ?_)
          clear hK K
          try simp only [Act.put, List.setIfInBounds_toArray, List.set_cons_zero, List.set_cons_succ]
          generalize w5.alloc (.cells #[.int .i64 0, .int .i64 0, .int .i64 0, .int .i64 0, .string ⟨#[]⟩, .slice none 0 0] 25) = w6 at *
          generalize w5.heap.size = bq at *
          refine wpAnyH_ready (rs := [17]) (by kernel_rfl) (by simp) ?_
          refine AllReadyH.cons rfl (fun K hK => ?_) AllReadyH.nil
          rw [if_pos (by rfl)]
          refine wp_st_page _ _ rfl bq rfl _ _ _ _ _ _ rfl rfl HP5.out.is ?_
          try simp only [Act.put, List.setIfInBounds_toArray, List.set_cons_zero, List.set_cons_succ]
          have hg6 := setP_grown w6 bq ls kk 0 0 ⟨#[]⟩ (.slice aq nq nq)
          have hs6 := HSQ2.out.st HPQ.out.two HP5.out hg6
          have hp6 := HP5.out.is.set6 ls kk 0 0 ⟨#[]⟩ (.slice aq nq nq)
          have hc6 := hHeld.kept HP5.out hg6 HNE.out HNQ.out
          refine hK.out _ _ hc6 (fun hHeld => ?_)
          clear hK K
          try simp only [Act.put, List.setIfInBounds_toArray, List.set_cons_zero, List.set_cons_succ]
          refine take_op (i := 18) (d := some 13) (v := ?_) rfl rfl (by kernel_rfl) (by kernel_rfl) (by kernel_rfl) (fun _ _ _ h => h) (Or.inl ⟨by rfl, ?_⟩) (by assumption) ?_
          rotate_left
          · (intro w' hSw; (try dsimp only at hSw); go_simp; try (with_reducible rfl))
          try simp only [Act.put, List.setIfInBounds_toArray, List.set_cons_zero, List.set_cons_succ]
          refine wpAnyH_done (by kernel_rfl) ?_ _
          have HMC := Lib.hid (midK_of hc6 hs6 HPQ.out hp6)
          clear hg6 hs6 hp6 hc6 hHeld
          go_wp2_with fail
          go_meet
          exact ⟨_, _, rfl, rfl, HMC.out⟩
      case rest =>
        obtain ⟨bq, E, rfl, rfl, HMID⟩ := hcut
        have HC := Lib.hid HMID.out.1
        rcases HMID.out.2 with rfl | ⟨rfl, g, aq, Sq, hlq⟩
        · clear HMID HK
          go_wp2_with fail
          go_roundw
          case rel => exact ⟨k + 1, by omega, by go_num, _, _, _, HC.out⟩
          case measure => simp [intOf]; omega
        · have HLQ := Lib.hid hlq
          obtain ⟨c0, c1, c2, c3, c4, c5⟩ := hlq.pk.cell
          have hip := HC.out.lv.pk.is
          clear HMID HK hlq
          go_wp2_with (refine wpList_st_page' rfl _ _ rfl bp rfl _ _ _ _ _ _ rfl rfl hip (fun w8 hp8 hg8 => ?_); have T8 := Lib.hid (HC.out.re HLQ.out.pr hp8 hg8); clear hp8 hg8 c0 c1 c2 c3 c4 c5)
          go_roundw
          case rel => exact ⟨k + 1, by omega, by go_num, _, _, _, T8.out⟩
          case measure => simp [intOf]; omega
    · have e : k = len := by omega
      subst e
      obtain ⟨c0, c1, c2, c3, c4, c5⟩ := HK.out.lv.pk.cell
      go_wp2_with fail
      clear c0 c1 c2 c3 c4 c5 hlt hlen hk
      refine (pr_get m 0 1 y f _ _ _ HK.out.lv.pr).mono ?_
      rintro e w3 ⟨rfl, hb3⟩
      have K3 := Lib.hid (HK.out.below hb3)
      clear hb3 HK
      obtain ⟨c0, c1, c2, c3, c4, c5⟩ := K3.out.lv.pk.cell
      go_wp2_with fail
      clear c0 c1 c2 c3 c4 c5
      refine (pr_set m 0 1 x 2 f _ _ _ K3.out.lv.pr (by decide)).mono ?_
      rintro e w4 ⟨⟨ls, kk, aq, nq, Sq, rfl, hs4, hp4⟩, hb4⟩
      have K4 := Lib.hid (K3.out.below hb4)
      have hip := pg_new w4
      clear hb4 K3
      cases hx : okx m x
      · have e1 : setR m 0 1 f x 2 = (1, 0, 0, []) := by unfold setR; rw [if_neg (by rw [hx]; simp)]
        rw [e1]
        clear e1 hp4 hs4
        go_wp2_with (refine wpList_st_page' rfl _ _ rfl w4.heap.size rfl _ _ _ _ _ _ rfl rfl hip (fun w5 hp5 hg5 => ?_); have D5 := Lib.hid (K4.out.bel.trans ((new_below hg5).mono K4.out.bel.size)); clear hg5 hp5)
        clear K4
        refine (awake_k _).mono ?_
        rintro e w6 ⟨rfl, hb6⟩
        have D6 := Lib.hid (D5.out.trans (hb6.mono D5.out.size))
        clear hb6
        go_wp2_with fail
        go_ret
        exact ⟨rfl, D6.out⟩
      have e1 : setR m 0 1 f x 2 = (0, 0, 1, bsOf (upd f (x - 1).toNat 2) (sz m)) := by unfold setR; rw [if_pos ⟨hx, by decide⟩]; rfl
      rw [e1] at hp4 ⊢
      clear e1
      obtain ⟨g, hg⟩ : ∃ g, g = upd f (x - 1).toNat 2 := ⟨_, rfl⟩
      have hgo : okf g m.toNat := by rw [hg]; exact set_ok (x := x) (s := 2) K4.out.lv.pr.hf hx (by decide)
      rw [← hg] at hp4
      obtain ⟨rfl, rfl, rfl, h4⟩ := pr_of hp4 hs4 HM.out HF.out (by decide) hgo
      have H4 := Lib.hid h4
      have HGX : Hid (getR m g x = (2, 0)) := by unfold Hid getR; rw [if_pos hx, hg, upd_same]; rfl
      have HGY : Hid ((getR m f y).2 = (getR m g y).2 ∧ (x = y ∨ (getR m g y).1 = (getR m f y).1)) := by
        unfold Hid
        by_cases hy : okx m y = true
        · have e1 : getR m f y = (((f (y - 1).toNat : Nat) : Int), 0) := by unfold getR; rw [if_pos hy]
          have e2 : getR m g y = (((g (y - 1).toNat : Nat) : Int), 0) := by unfold getR; rw [if_pos hy]
          rw [e1, e2]
          refine ⟨rfl, ?_⟩
          by_cases hxy : x = y
          · exact .inl hxy
          · refine .inr ?_
            have h1 := okx_bd hx; have h2 := okx_bd hy
            rw [hg, upd_other _ (by omega)]
        · have e1 : getR m f y = (0, 1) := by unfold getR; rw [if_neg hy]
          have e2 : getR m g y = (0, 1) := by unfold getR; rw [if_neg hy]
          rw [e1, e2]; exact ⟨rfl, .inr rfl⟩
      obtain ⟨r1, hr1⟩ : ∃ r1, r1 = getR m f y := ⟨_, rfl⟩
      obtain ⟨r2, hr2⟩ : ∃ r2, r2 = getR m g y := ⟨_, rfl⟩
      rw [← hr1, ← hr2] at HGY
      rw [← hr1]
      have HR1 := Lib.hid hr1
      have HR2 := Lib.hid hr2
      clear hr1 hr2
      clear h4 hp4 hs4 hg hgo
      go_wp2_with (refine wpList_st_page' rfl _ _ rfl w4.heap.size rfl _ _ _ _ _ _ rfl rfl hip (fun w5 hp5 hg5 => ?_); have K5 := Lib.hid (K4.out.below (new_below hg5)); have L5 : Hid (LV m w5 w4.heap.size 0 1 g aq Sq) := (by exact ⟨hp5, H4.out.below (new_below hg5)⟩); (obtain ⟨c0, c1, c2, c3, c4, c5⟩ := hp5.cell); clear hg5 hp5)
      clear c0 c1 c2 c3 c4 c5 hip K4 H4
      generalize w4.heap.size = bq at *
      refine (pr_get m 0 1 x g _ _ _ L5.out.pr).mono ?_
      rw [HGX.out]
      rintro e w6 ⟨rfl, hb6⟩
      have K6 := Lib.hid (K5.out.below hb6)
      have L6 := Lib.hid (L5.out.below hb6)
      clear hb6 K5 L5
      obtain ⟨c0, c1, c2, c3, c4, c5⟩ := L6.out.pk.cell
      go_wp2_with fail
      clear c0 c1 c2 c3 c4 c5
      refine (pr_get m 0 1 y g _ _ _ L6.out.pr).mono ?_
      rintro e w7 ⟨rfl, hb7⟩
      have K7 := Lib.hid (K6.out.below hb7)
      have L7 := Lib.hid (L6.out.below hb7)
      clear hb7 K6 L6
      rw [← HR2.out]
      obtain ⟨c0, c1, c2, c3, c4, c5⟩ := L7.out.pk.cell
      go_wp2_with fail
      clear c0 c1 c2 c3 c4 c5
      refine (lv_encode L7.out).mono ?_
      rintro e w8 ⟨⟨sx, rfl⟩, hb8⟩
      have K8 := Lib.hid (K7.out.below hb8)
      have L8 := Lib.hid (L7.out.below hb8)
      clear hb8 K7 L7
      obtain ⟨c0, c1, c2, c3, c4, c5⟩ := K8.out.lv.pk.cell
      go_wp2_with fail
      clear c0 c1 c2 c3 c4 c5
      refine (pr_get m 0 1 y f _ _ _ K8.out.lv.pr).mono ?_
      rw [← HR1.out]
      rintro e w9 ⟨rfl, hb9⟩
      have K9 := Lib.hid (K8.out.below hb9)
      have L9 := Lib.hid (L8.out.below hb9)
      clear hb9 K8 L8
      have q1 : (r1.2 == r2.2) = true := by rw [beq_iff_eq]; exact HGY.out.1
      have q2 : (r1.2 == r1.2) = true := by simp
      have q3 : (r1.1 == r1.1) = true := by simp
      have hq4 := HGY.out.2
      clear HGY HR1 HR2 HGX
      obtain ⟨c0, c1, c2, c3, c4, c5⟩ := L9.out.pk.cell
      have FIN : Hid (∀ w', Below w9.heap.size w9 w' → Below w.heap.size w w') := fun w' h => K9.out.bel.trans (h.mono K9.out.bel.size)
      have CK := Lib.hid (pr_check m 0 1 g aq Sq w9 L9.out.pr)
      clear K9 L9
      obtain ⟨r11, r12⟩ := r1
      obtain ⟨r21, r22⟩ := r2
      simp only at q1 q2 q3 hq4
      cases hxy : (x == y)
      · have q5 : (r21 == r11) = true := by
          rw [beq_iff_eq]
          rcases hq4 with h | h
          · rw [beq_eq_false_iff_ne] at hxy; exact absurd h hxy
          · exact h
        clear hq4
        go_wp2_with fail
        refine CK.out.mono ?_
        rintro e w10 ⟨rfl, hb10⟩
        go_wp2_with fail
        refine (awake_k _).mono ?_
        rintro e w11 ⟨rfl, hb11⟩
        have D11 := Lib.hid (FIN.out _ (hb10.trans (hb11.mono hb10.size)))
        clear hb10 hb11
        go_wp2_with fail
        go_ret
        exact ⟨rfl, D11.out⟩
      · clear hq4
        go_wp2_with fail
        refine CK.out.mono ?_
        rintro e w10 ⟨rfl, hb10⟩
        go_wp2_with fail
        refine (awake_k _).mono ?_
        rintro e w11 ⟨rfl, hb11⟩
        have D11 := Lib.hid (FIN.out _ (hb10.trans (hb11.mono hb10.size)))
        clear hb10 hb11
        go_wp2_with fail
        go_ret
        exact ⟨rfl, D11.out⟩
end Go.Proofs.Ytpmhcpphbilokaa
