/- Statuses: the walk of ClogCuts. -/
import Derived.Test.YtpmhcpphbilokaaClogN
namespace Go.Proofs.Ytpmhcpphbilokaa
open Go.RowKit
set_option linter.unusedSimpArgs false
set_option maxRecDepth 100000

/-- Behind a Set in the loop. -/
def MidC (W wx : World) (m lim : Int) (bx : Nat) (ao : Option Addr) (len cap bp : Nat) (F : Int) (f : Nat → Nat) (ap : Option Addr) (S : Nat → ByteArray) (bq : Nat) (E : Int) : Prop :=
  CS W wx m lim bx ao len cap bp F f ap S ∧ (E = 1 ∨ (E = 0 ∧ ∃ g aq Sq, LV m wx bq 0 F g aq Sq))
theorem PgS.two {o : Int × Int × Int × List UInt8} {lsn k : Int} {n : Nat} {S : Nat → ByteArray} (h : PgS o lsn k n S) : n = 2 ∨ n = 0 := by
  by_cases h0 : o.1 = 0
  · exact .inl (h.1 h0).2.2.1
  · exact .inr (h.2 h0).2.2
theorem StrsIn.st {w w' : World} {ao : Option Addr} {n : Nat} {S : Nat → ByteArray} (h : StrsIn w ao n S) (hn : n = 2 ∨ n = 0) {b : Nat} {a0 a1 a2 a3 : Int} {u : ByteArray} {ao' : Option Addr} {n' c' : Nat} (P : PK w b a0 a1 a2 a3 u (.slice ao' n' c')) (hg : w.grownBy w' (some b)) : StrsIn w' ao n S := by
  rcases hn with rfl | rfl
  · exact h.grown hg (fun g off e => by subst e; exact P.ne_strs h)
  · intro i hi; omega
theorem CS.kept {W wx w' : World} {m lim : Int} {bx : Nat} {ao : Option Addr} {len cap bp : Nat} {F : Int} {f : Nat → Nat} {ap : Option Addr} {S : Nat → ByteArray} (H : CS W wx m lim bx ao len cap bp F f ap S) {b : Nat} {a0 a1 a2 a3 : Int} {u : ByteArray} {ao' : Option Addr} {n' c' : Nat} (P : PK wx b a0 a1 a2 a3 u (.slice ao' n' c')) (hg : wx.grownBy w' (some b)) (hne : bp ≠ b) (hb : W.heap.size ≤ b) : CS W w' m lim bx ao len cap bp F f ap S :=
  ⟨H.box.grown hg (by simpa using H.box.ne P), H.lv.st P hg hne, below_own H.bel hb hg, H.n0⟩
theorem midC_of {W w' : World} {m lim : Int} {bx : Nat} {ao : Option Addr} {len cap bp : Nat} {F : Int} {f : Nat → Nat} {ap : Option Addr} {S : Nat → ByteArray} {x s : Int} {ls k : Int} {aq : Option Addr} {nq : Nat} {Sq : Nat → ByteArray} {bq : Nat}
    (H : CS W w' m lim bx ao len cap bp F f ap S) (hs : StrsIn w' aq nq Sq) (hp : PgS (setR m 0 F f x s) ls k nq Sq) (hq : PK w' bq ls k 0 0 ⟨#[]⟩ (.slice aq nq nq)) : MidC W w' m lim bx ao len cap bp F f ap S bq (setR m 0 F f x s).1 := by
  refine ⟨H, ?_⟩
  by_cases hA : okx m x = true ∧ s ≤ 3
  · have e1 : setR m 0 F f x s = (0, 0, F, bsOf (upd f (x - 1).toNat s.toNat) (sz m)) := by unfold setR; rw [if_pos hA]
    rw [e1] at hp ⊢
    obtain ⟨rfl, rfl, rfl, h3⟩ := pr_of hp hs H.lv.pr.hm H.lv.pr.hF (by decide) (set_ok H.lv.pr.hf hA.1 hA.2)
    exact .inr ⟨rfl, _, _, _, hq, h3⟩
  · have e1 : setR m 0 F f x s = (1, 0, 0, []) := by unfold setR; rw [if_neg hA]
    rw [e1]
    exact .inl rfl

set_option maxHeartbeats 4000000 in
theorem clogCuts_w (m fr : Int) (ao : Option Addr) (len cap : Nat) (C : Nat → Bool) (X T : Nat → Int) (lim : Int) (w : World) (hlen : len ≤ 9223372036854775807) (ho : OpsIn w ao len C X T) :
    Calls Try.prog 4 #[.int .i64 m, .int .i64 fr, .agg #[.slice ao len cap, .int .i64 lim]] w fun e w' => e = .returned (.bool true) ∧ Below w.heap.size w w' := by
  obtain ⟨wb, hwb⟩ : ∃ wb, wb = w.alloc (.cells #[.slice ao len cap, .int .i64 lim] 38) := ⟨_, rfl⟩
  obtain ⟨bx, hbx⟩ : ∃ bx, bx = w.heap.size := ⟨_, rfl⟩
  have B0 : Hid (CB wb bx ao len cap lim) := by rw [hwb, hbx]; exact heap_alloc_new w _
  have D0 : Hid (Below w.heap.size w wb) := by rw [hwb]; exact (Below.refl _ w).alloc (Nat.le_refl _) _
  have HWB := Lib.hid hwb
  have HBX := Lib.hid hbx
  have HO := Lib.hid ho
  clear hwb hbx ho
  go_enter Try.func4, Try.ntmps4
  go_wp2_with fail
  rw [← HWB.out, ← HBX.out]
  clear HWB HBX
  refine (blank_c m fr wb).mono ?_
  rintro e w1 ⟨⟨ls1, k1, ao1, n1, S1, rfl, hs1, hp1⟩, hb1⟩
  have B1 := Lib.hid (B0.out.grown (grown_of hb1) (by simp))
  have D1 := Lib.hid (D0.out.trans (hb1.mono D0.out.size))
  have hip := pg_new w1
  have HN1 : Hid (w.heap.size ≤ w1.heap.size) := D1.out.size
  clear B0 D0 hb1
  cases hmf : (okm m && okx m fr)
  · have e1 : blV m fr = (1, 0, 0, []) := by unfold blV; rw [hmf]; rfl
    rw [e1]
    clear e1 hp1 hs1
    have D1' := D1
    go_wp2_with (refine wpList_st_page' rfl _ _ rfl w1.heap.size rfl _ _ _ _ _ _ rfl rfl hip (fun w2 hp2 hg2 => ?_); have D2 := Lib.hid (D1'.out.trans ((new_below hg2).mono D1'.out.size)); clear hg2 hp2)
    clear D1 D1'
    refine (awake_k _).mono ?_
    rintro e w3 ⟨rfl, hb3⟩
    have D3 := Lib.hid (D2.out.trans (hb3.mono D2.out.size))
    clear hb3
    go_wp2_with fail
    go_ret
    exact ⟨rfl, D3.out⟩
  have hmf2 := hmf
  rw [Bool.and_eq_true] at hmf2
  obtain ⟨hm, hF⟩ := hmf2
  have e1 : blV m fr = (0, 0, fr, bsOf (fun _ => 0) (sz m)) := by unfold blV; rw [hmf]; rfl
  rw [e1] at hp1 ⊢
  clear e1 hmf
  obtain ⟨rfl, rfl, rfl, h1⟩ := pr_of hp1 hs1 hm hF (by decide) (okf_zero _)
  have H1 := Lib.hid h1
  clear h1 hp1 hs1
  have HM := Lib.hid hm
  have HF := Lib.hid hF
  clear hm hF
  go_wp2_with (refine wpList_st_page' rfl _ _ rfl w1.heap.size rfl _ _ _ _ _ _ rfl rfl hip (fun w2 hp2 hg2 => ?_); have T2 : Hid (CS w w2 m lim bx ao len cap w1.heap.size fr (fun _ => 0) ao1 S1) := (by exact ⟨B1.out.grown (grown_of (new_below hg2)) (by simp), ⟨hp2, H1.out.below (new_below hg2)⟩, D1.out.trans ((new_below hg2).mono D1.out.size), HN1.out⟩); clear hg2 hp2)
  clear hip B1 D1 H1
  generalize w1.heap.size = bp at *
  go_loopw [9] (fun i wr => ∃ k : Nat, k ≤ len ∧ i = .int .i64 k ∧ ∃ f ap S, Hid (CS w wr m lim bx ao len cap bp fr f ap S)) (fun i _ => len - (intOf i).toNat)
  case atStart => exact ⟨0, Nat.zero_le _, rfl, _, _, _, T2.out⟩
  case round =>
    obtain ⟨k, hk, rfl, f, ap, S, HK⟩ := hrel
    obtain ⟨u0, u1⟩ := HK.out.box.cell
    by_cases hlt : k < len
    · obtain ⟨b, off, rfl, hx0, hx1, hx2, ht0⟩ := HO.out.at hlt
      have HX1 := Lib.hid hx1
      have HX2 := Lib.hid hx2
      have HT0 := Lib.hid ht0
      generalize X k = x at *
      generalize T k = s at *
      clear hx0 hx1 hx2 ht0
      go_upto_region 7 with (fail)
      clear u0 u1
      go_cut [10, 11] (fun s10 s11 wx => ∃ (bq : Nat) (E : Int), s10 = .pointer (some ⟨bq, 0, none⟩) ∧ s11 = .int .i64 E ∧ Hid (MidC w wx m lim bx (some ⟨b, off, none⟩) len cap bp fr f ap S bq E))
      case first =>
        have HKd := Lib.hid (HK.out.below (by exact (Below.refl _ _).drew))
        refine wp_region_held_drew (S := fun w' => CS w w' m lim bx (some ⟨b, off, none⟩) len cap bp fr f ap S) (by kernel_rfl) HKd.out (fun hHeld => ?_)
        refine take_op (i := 0) (d := some 44) (v := ?_) rfl rfl (by kernel_rfl) (by kernel_rfl) (by kernel_rfl) (fun _ _ _ h => h) (Or.inl ⟨by rfl, ?_⟩) (by assumption) ?_
        rotate_left
        · (intro w' hSw; (try dsimp only at hSw); obtain ⟨c0, c1, c2, c3, c4, c5⟩ := hSw.lv.pk.cell; obtain ⟨u0, u1⟩ := hSw.box.cell; have x1 := bel_at hSw.bel HX1.out; have x2 := bel_at hSw.bel HX2.out; go_simp; try (with_reducible rfl))
        try simp only [Act.put, List.setIfInBounds_toArray, List.set_cons_zero, List.set_cons_succ]
        refine take_op (i := 1) (d := some 45) (v := ?_) rfl rfl (by kernel_rfl) (by kernel_rfl) (by kernel_rfl) (fun _ _ _ h => h) (Or.inl ⟨by rfl, ?_⟩) (by assumption) ?_
        rotate_left
        · (intro w' hSw; (try dsimp only at hSw); obtain ⟨c0, c1, c2, c3, c4, c5⟩ := hSw.lv.pk.cell; obtain ⟨u0, u1⟩ := hSw.box.cell; have x1 := bel_at hSw.bel HX1.out; have x2 := bel_at hSw.bel HX2.out; go_simp; try (with_reducible rfl))
        try simp only [Act.put, List.setIfInBounds_toArray, List.set_cons_zero, List.set_cons_succ]
        refine take_op (i := 2) (d := some 46) (v := ?_) rfl rfl (by kernel_rfl) (by kernel_rfl) (by kernel_rfl) (fun _ _ _ h => h) (Or.inl ⟨by rfl, ?_⟩) (by assumption) ?_
        rotate_left
        · (intro w' hSw; (try dsimp only at hSw); obtain ⟨c0, c1, c2, c3, c4, c5⟩ := hSw.lv.pk.cell; obtain ⟨u0, u1⟩ := hSw.box.cell; have x1 := bel_at hSw.bel HX1.out; have x2 := bel_at hSw.bel HX2.out; go_simp; try (with_reducible rfl))
        try simp only [Act.put, List.setIfInBounds_toArray, List.set_cons_zero, List.set_cons_succ]
        refine take_op (i := 3) (d := some 47) (v := ?_) rfl rfl (by kernel_rfl) (by kernel_rfl) (by kernel_rfl) (fun _ _ _ h => h) (Or.inl ⟨by rfl, ?_⟩) (by assumption) ?_
        rotate_left
        · (intro w' hSw; (try dsimp only at hSw); obtain ⟨c0, c1, c2, c3, c4, c5⟩ := hSw.lv.pk.cell; obtain ⟨u0, u1⟩ := hSw.box.cell; have x1 := bel_at hSw.bel HX1.out; have x2 := bel_at hSw.bel HX2.out; go_simp; try (with_reducible rfl))
        try simp only [Act.put, List.setIfInBounds_toArray, List.set_cons_zero, List.set_cons_succ]
        refine take_op (i := 4) (d := some 48) (v := ?_) rfl rfl (by kernel_rfl) (by kernel_rfl) (by kernel_rfl) (fun _ _ _ h => h) (Or.inl ⟨by rfl, ?_⟩) (by assumption) ?_
        rotate_left
        · (intro w' hSw; (try dsimp only at hSw); obtain ⟨c0, c1, c2, c3, c4, c5⟩ := hSw.lv.pk.cell; obtain ⟨u0, u1⟩ := hSw.box.cell; have x1 := bel_at hSw.bel HX1.out; have x2 := bel_at hSw.bel HX2.out; go_simp; try (with_reducible rfl))
        try simp only [Act.put, List.setIfInBounds_toArray, List.set_cons_zero, List.set_cons_succ]
        refine take_op (i := 5) (d := some 49) (v := ?_) rfl rfl (by kernel_rfl) (by kernel_rfl) (by kernel_rfl) (fun _ _ _ h => h) (Or.inl ⟨by rfl, ?_⟩) (by assumption) ?_
        rotate_left
        · (intro w' hSw; (try dsimp only at hSw); obtain ⟨c0, c1, c2, c3, c4, c5⟩ := hSw.lv.pk.cell; obtain ⟨u0, u1⟩ := hSw.box.cell; have x1 := bel_at hSw.bel HX1.out; have x2 := bel_at hSw.bel HX2.out; go_simp; try (with_reducible rfl))
        try simp only [Act.put, List.setIfInBounds_toArray, List.set_cons_zero, List.set_cons_succ]
        refine take_op (i := 6) (d := some 50) (v := ?_) rfl rfl (by kernel_rfl) (by kernel_rfl) (by kernel_rfl) (fun _ _ _ h => h) (Or.inl ⟨by rfl, ?_⟩) (by assumption) ?_
        rotate_left
        · (intro w' hSw; (try dsimp only at hSw); obtain ⟨c0, c1, c2, c3, c4, c5⟩ := hSw.lv.pk.cell; obtain ⟨u0, u1⟩ := hSw.box.cell; have x1 := bel_at hSw.bel HX1.out; have x2 := bel_at hSw.bel HX2.out; go_simp; try (with_reducible rfl))
        try simp only [Act.put, List.setIfInBounds_toArray, List.set_cons_zero, List.set_cons_succ]
        refine take_op (i := 7) (d := some 51) (v := ?_) rfl rfl (by kernel_rfl) (by kernel_rfl) (by kernel_rfl) (fun _ _ _ h => h) (Or.inl ⟨by rfl, ?_⟩) (by assumption) ?_
        rotate_left
        · (intro w' hSw; (try dsimp only at hSw); obtain ⟨c0, c1, c2, c3, c4, c5⟩ := hSw.lv.pk.cell; obtain ⟨u0, u1⟩ := hSw.box.cell; have x1 := bel_at hSw.bel HX1.out; have x2 := bel_at hSw.bel HX2.out; go_simp; try (with_reducible rfl))
        try simp only [Act.put, List.setIfInBounds_toArray, List.set_cons_zero, List.set_cons_succ]
        refine take_op (i := 8) (d := some 52) (v := ?_) rfl rfl (by kernel_rfl) (by kernel_rfl) (by kernel_rfl) (fun _ _ _ h => h) (Or.inl ⟨by rfl, ?_⟩) (by assumption) ?_
        rotate_left
        · (intro w' hSw; (try dsimp only at hSw); obtain ⟨c0, c1, c2, c3, c4, c5⟩ := hSw.lv.pk.cell; obtain ⟨u0, u1⟩ := hSw.box.cell; have x1 := bel_at hSw.bel HX1.out; have x2 := bel_at hSw.bel HX2.out; go_simp; try (with_reducible rfl))
        try simp only [Act.put, List.setIfInBounds_toArray, List.set_cons_zero, List.set_cons_succ]
        refine take_op (i := 9) (d := some 53) (v := ?_) rfl rfl (by kernel_rfl) (by kernel_rfl) (by kernel_rfl) (fun _ _ _ h => h) (Or.inl ⟨by rfl, ?_⟩) (by assumption) ?_
        rotate_left
        · (intro w' hSw; (try dsimp only at hSw); obtain ⟨c0, c1, c2, c3, c4, c5⟩ := hSw.lv.pk.cell; obtain ⟨u0, u1⟩ := hSw.box.cell; have x1 := bel_at hSw.bel HX1.out; have x2 := bel_at hSw.bel HX2.out; go_simp; try (with_reducible rfl))
        try simp only [Act.put, List.setIfInBounds_toArray, List.set_cons_zero, List.set_cons_succ]
        refine take_op (i := 10) (d := some 54) (v := ?_) rfl rfl (by kernel_rfl) (by kernel_rfl) (by kernel_rfl) (fun _ _ _ h => h) (Or.inl ⟨by rfl, ?_⟩) (by assumption) ?_
        rotate_left
        · (intro w' hSw; (try dsimp only at hSw); obtain ⟨c0, c1, c2, c3, c4, c5⟩ := hSw.lv.pk.cell; obtain ⟨u0, u1⟩ := hSw.box.cell; have x1 := bel_at hSw.bel HX1.out; have x2 := bel_at hSw.bel HX2.out; go_simp; try (with_reducible rfl))
        try simp only [Act.put, List.setIfInBounds_toArray, List.set_cons_zero, List.set_cons_succ]
        refine take_op (i := 11) (d := some 55) (v := ?_) rfl rfl (by kernel_rfl) (by kernel_rfl) (by kernel_rfl) (fun _ _ _ h => h) (Or.inl ⟨by rfl, ?_⟩) (by assumption) ?_
        rotate_left
        · (intro w' hSw; (try dsimp only at hSw); obtain ⟨c0, c1, c2, c3, c4, c5⟩ := hSw.lv.pk.cell; obtain ⟨u0, u1⟩ := hSw.box.cell; have x1 := bel_at hSw.bel HX1.out; have x2 := bel_at hSw.bel HX2.out; go_simp; try (with_reducible rfl))
        try simp only [Act.put, List.setIfInBounds_toArray, List.set_cons_zero, List.set_cons_succ]
        refine take_op (i := 12) (d := some 56) (v := ?_) rfl rfl (by kernel_rfl) (by kernel_rfl) (by kernel_rfl) (fun _ _ _ h => h) (Or.inl ⟨by rfl, ?_⟩) (by assumption) ?_
        rotate_left
        · (intro w' hSw; (try dsimp only at hSw); obtain ⟨c0, c1, c2, c3, c4, c5⟩ := hSw.lv.pk.cell; obtain ⟨u0, u1⟩ := hSw.box.cell; have x1 := bel_at hSw.bel HX1.out; have x2 := bel_at hSw.bel HX2.out; go_simp; try (with_reducible rfl))
        try simp only [Act.put, List.setIfInBounds_toArray, List.set_cons_zero, List.set_cons_succ]
        refine take_op (i := 13) (d := some 57) (v := ?_) rfl rfl (by kernel_rfl) (by kernel_rfl) (by kernel_rfl) (fun _ _ _ h => h) (Or.inl ⟨by rfl, ?_⟩) (by assumption) ?_
        rotate_left
        · (intro w' hSw; (try dsimp only at hSw); obtain ⟨c0, c1, c2, c3, c4, c5⟩ := hSw.lv.pk.cell; obtain ⟨u0, u1⟩ := hSw.box.cell; have x1 := bel_at hSw.bel HX1.out; have x2 := bel_at hSw.bel HX2.out; go_simp; try (with_reducible rfl))
        try simp only [Act.put, List.setIfInBounds_toArray, List.set_cons_zero, List.set_cons_succ]
        refine wpAnyH_ready (rs := [14, 18]) (by kernel_rfl) (by simp) ?_
        refine AllReadyH.cons rfl (fun K hK => ?_) (AllReadyH.cons rfl (fun K hK => ?_) AllReadyH.nil)
        rotate_left
        · go_simp
          have P0 := PK.new wr.drew 0 0 0 0 ⟨#[]⟩ (.slice none 0 0)
          have HNE : Hid (bp ≠ wr.drew.heap.size) := by have := hHeld.lv.pk.lt; unfold Hid; omega
          have HNQ : Hid (w.heap.size ≤ wr.drew.heap.size) := hHeld.bel.size
          refine hK.out _ _ (hHeld.below ((Below.refl _ _).alloc (Nat.le_refl _) _)) (fun hHeld => ?_)
          clear hK K
          try simp only [Act.put, List.setIfInBounds_toArray, List.set_cons_zero, List.set_cons_succ]
          refine wpAnyH_ready (rs := [14]) (by kernel_rfl) (by simp) ?_
          refine AllReadyH.cons rfl (fun K hK => ?_) AllReadyH.nil
          go_simp
          refine (pr_set m 0 fr x s _ _ _ _ hHeld.lv.pr HT0.out).mono ?_
          rintro e w5 ⟨⟨ls, kk, aq, nq, Sq, rfl, hsq, hpq⟩, hb5⟩
          have HSQ := Lib.hid hsq
          have HPQ := Lib.hid hpq
          have hcs5 := hHeld.below hb5
          clear hsq hpq
          have HP5 := Lib.hid (P0.below hb5)
          clear P0 hb5
          refine hK.out _ _ hcs5 (fun hHeld => ?_)
          clear hK K
          try simp only [Act.put, List.setIfInBounds_toArray, List.set_cons_zero, List.set_cons_succ]
          obtain ⟨bq, hbq⟩ : ∃ bq, bq = wr.drew.heap.size := ⟨_, rfl⟩
          have hbq2 : bq = wr.heap.size := hbq
          rw [← hbq] at HP5 HNE HNQ
          rw [← hbq2]
          clear hbq hbq2
          refine take_op (i := 15) (d := some 43) (v := ?_) rfl rfl (by kernel_rfl) (by kernel_rfl) (by kernel_rfl) (fun _ _ _ h => h) (Or.inl ⟨by rfl, ?_⟩) (by assumption) ?_
          rotate_left
          · (intro w' hSw; (try dsimp only at hSw); go_simp; try (with_reducible rfl))
          try simp only [Act.put, List.setIfInBounds_toArray, List.set_cons_zero, List.set_cons_succ]
          refine take_op (i := 16) (d := some 59) (v := ?_) rfl rfl (by kernel_rfl) (by kernel_rfl) (by kernel_rfl) (fun _ _ _ h => h) (Or.inl ⟨by rfl, ?_⟩) (by assumption) ?_
          rotate_left
          · (intro w' hSw; (try dsimp only at hSw); go_simp; try (with_reducible rfl))
          try simp only [Act.put, List.setIfInBounds_toArray, List.set_cons_zero, List.set_cons_succ]
          refine take_op (i := 17) (d := some 60) (v := ?_) rfl rfl (by kernel_rfl) (by kernel_rfl) (by kernel_rfl) (fun _ _ _ h => h) (Or.inl ⟨by rfl, ?_⟩) (by assumption) ?_
          rotate_left
          · (intro w' hSw; (try dsimp only at hSw); go_simp; try (with_reducible rfl))
          try simp only [Act.put, List.setIfInBounds_toArray, List.set_cons_zero, List.set_cons_succ]
          refine wpAnyH_ready (rs := [19]) (by kernel_rfl) (by simp) ?_
          refine AllReadyH.cons rfl (fun K hK => ?_) AllReadyH.nil
          rw [if_pos (by rfl)]
          refine wp_st_page _ _ rfl bq rfl _ _ _ _ _ _ rfl rfl HP5.out.is ?_
          try simp only [Act.put, List.setIfInBounds_toArray, List.set_cons_zero, List.set_cons_succ]
          have hg6 := setP_grown w5 bq ls kk 0 0 ⟨#[]⟩ (.slice aq nq nq)
          have hs6 := HSQ.out.st HPQ.out.two HP5.out hg6
          have hp6 := HP5.out.is.set6 ls kk 0 0 ⟨#[]⟩ (.slice aq nq nq)
          have hc6 := hHeld.kept HP5.out hg6 HNE.out HNQ.out
          refine hK.out _ _ hc6 (fun hHeld => ?_)
          clear hK K
          try simp only [Act.put, List.setIfInBounds_toArray, List.set_cons_zero, List.set_cons_succ]
          refine take_op (i := 20) (d := some 11) (v := ?_) rfl rfl (by kernel_rfl) (by kernel_rfl) (by kernel_rfl) (fun _ _ _ h => h) (Or.inl ⟨by rfl, ?_⟩) (by assumption) ?_
          rotate_left
          · (intro w' hSw; (try dsimp only at hSw); go_simp; try (with_reducible rfl))
          try simp only [Act.put, List.setIfInBounds_toArray, List.set_cons_zero, List.set_cons_succ]
          refine wpAnyH_done (by kernel_rfl) ?_ _
          have HMC := Lib.hid (midC_of hc6 hs6 HPQ.out hp6)
          clear hg6 hs6 hp6 hc6 hHeld
          go_wp2_with fail
          go_meet
          exact ⟨_, _, rfl, rfl, HMC.out⟩
        · go_simp
          refine (pr_set m 0 fr x s _ _ _ _ hHeld.lv.pr HT0.out).mono ?_
          rintro e w5 ⟨⟨ls, kk, aq, nq, Sq, rfl, hsq, hpq⟩, hb5⟩
          have HSQ := Lib.hid hsq
          have HPQ := Lib.hid hpq
          have hcs5 := hHeld.below hb5
          clear hsq hpq
          have HP5 := Lib.hid (PK.new w5 0 0 0 0 ⟨#[]⟩ (.slice none 0 0))
          have HNE : Hid (bp ≠ w5.heap.size) := by have := hcs5.lv.pk.lt; unfold Hid; omega
          have HNQ : Hid (w.heap.size ≤ w5.heap.size) := hcs5.bel.size
          clear hb5
          refine hK.out _ _ hcs5 (fun hHeld => ?_)
          clear hK K
          try simp only [Act.put, List.setIfInBounds_toArray, List.set_cons_zero, List.set_cons_succ]
          refine take_op (i := 15) (d := some 43) (v := ?_) rfl rfl (by kernel_rfl) (by kernel_rfl) (by kernel_rfl) (fun _ _ _ h => h) (Or.inl ⟨by rfl, ?_⟩) (by assumption) ?_
          rotate_left
          · (intro w' hSw; (try dsimp only at hSw); go_simp; try (with_reducible rfl))
          try simp only [Act.put, List.setIfInBounds_toArray, List.set_cons_zero, List.set_cons_succ]
          refine take_op (i := 16) (d := some 59) (v := ?_) rfl rfl (by kernel_rfl) (by kernel_rfl) (by kernel_rfl) (fun _ _ _ h => h) (Or.inl ⟨by rfl, ?_⟩) (by assumption) ?_
          rotate_left
          · (intro w' hSw; (try dsimp only at hSw); go_simp; try (with_reducible rfl))
          try simp only [Act.put, List.setIfInBounds_toArray, List.set_cons_zero, List.set_cons_succ]
          refine take_op (i := 17) (d := some 60) (v := ?_) rfl rfl (by kernel_rfl) (by kernel_rfl) (by kernel_rfl) (fun _ _ _ h => h) (Or.inl ⟨by rfl, ?_⟩) (by assumption) ?_
          rotate_left
          · (intro w' hSw; (try dsimp only at hSw); go_simp; try (with_reducible rfl))
          try simp only [Act.put, List.setIfInBounds_toArray, List.set_cons_zero, List.set_cons_succ]
          refine wpAnyH_ready (rs := [18]) (by kernel_rfl) (by simp) ?_
          refine AllReadyH.cons rfl (fun K hK => ?_) AllReadyH.nil
          go_simp
          have hcs6 := hHeld.below ((Below.refl _ w5).alloc (Nat.le_refl _) (.cells #[.int .i64 0, .int .i64 0, .int .i64 0, .int .i64 0, .string ⟨#[]⟩, .slice none 0 0] 25))
          have HSQ2 := Lib.hid (HSQ.out.below ((Below.refl _ w5).alloc (Nat.le_refl _) (.cells #[.int .i64 0, .int .i64 0, .int .i64 0, .int .i64 0, .string ⟨#[]⟩, .slice none 0 0] 25)) rfl)
          clear HSQ
          refine hK.out _ _ hcs6 (fun hHeld => ?_)
          clear hK K
          try simp only [Act.put, List.setIfInBounds_toArray, List.set_cons_zero, List.set_cons_succ]
          generalize w5.alloc (.cells #[.int .i64 0, .int .i64 0, .int .i64 0, .int .i64 0, .string ⟨#[]⟩, .slice none 0 0] 25) = w6 at *
          generalize w5.heap.size = bq at *
          refine wpAnyH_ready (rs := [19]) (by kernel_rfl) (by simp) ?_
          refine AllReadyH.cons rfl (fun K hK => ?_) AllReadyH.nil
          rw [if_pos (by rfl)]
          refine wp_st_page _ _ rfl bq rfl _ _ _ _ _ _ rfl rfl HP5.out.is ?_
          try simp only [Act.put, List.setIfInBounds_toArray, List.set_cons_zero, List.set_cons_succ]
          have hg6 := setP_grown w6 bq ls kk 0 0 ⟨#[]⟩ (.slice aq nq nq)
          have hs6 := HSQ2.out.st HPQ.out.two HP5.out hg6
          have hp6 := HP5.out.is.set6 ls kk 0 0 ⟨#[]⟩ (.slice aq nq nq)
          have hc6 := hHeld.kept HP5.out hg6 HNE.out HNQ.out
          refine hK.out _ _ hc6 (fun hHeld => ?_)
          clear hK K
          try simp only [Act.put, List.setIfInBounds_toArray, List.set_cons_zero, List.set_cons_succ]
          refine take_op (i := 20) (d := some 11) (v := ?_) rfl rfl (by kernel_rfl) (by kernel_rfl) (by kernel_rfl) (fun _ _ _ h => h) (Or.inl ⟨by rfl, ?_⟩) (by assumption) ?_
          rotate_left
          · (intro w' hSw; (try dsimp only at hSw); go_simp; try (with_reducible rfl))
          try simp only [Act.put, List.setIfInBounds_toArray, List.set_cons_zero, List.set_cons_succ]
          refine wpAnyH_done (by kernel_rfl) ?_ _
          have HMC := Lib.hid (midC_of hc6 hs6 HPQ.out hp6)
          clear hg6 hs6 hp6 hc6 hHeld
          go_wp2_with fail
          go_meet
          exact ⟨_, _, rfl, rfl, HMC.out⟩
      case rest =>
        obtain ⟨bq, E, rfl, rfl, HMID⟩ := hcut
        have HC := Lib.hid HMID.out.1
        rcases HMID.out.2 with rfl | ⟨rfl, g, aq, Sq, hlq⟩
        · clear HMID HK
          go_wp2_with fail
          go_roundw
          case rel => exact ⟨k + 1, by omega, by go_num, _, _, _, HC.out⟩
          case measure => simp [intOf]; omega
        · have HLQ := Lib.hid hlq
          obtain ⟨c0, c1, c2, c3, c4, c5⟩ := hlq.pk.cell
          have hip := HC.out.lv.pk.is
          clear HMID HK hlq
          go_wp2_with (refine wpList_st_page' rfl _ _ rfl bp rfl _ _ _ _ _ _ rfl rfl hip (fun w8 hp8 hg8 => ?_); have T8 := Lib.hid (HC.out.re HLQ.out.pr hp8 hg8); clear hp8 hg8 c0 c1 c2 c3 c4 c5)
          go_roundw
          case rel => exact ⟨k + 1, by omega, by go_num, _, _, _, T8.out⟩
          case measure => simp [intOf]; omega
    · have e : k = len := by omega
      subst e
      obtain ⟨c0, c1, c2, c3, c4, c5⟩ := HK.out.lv.pk.cell
      go_wp2_with fail
      clear c0 c1 c2 c3 c4 c5 u0 u1 hlt hlen hk
      refine (pr_cut m 0 fr lim f _ _ _ HK.out.lv.pr).mono ?_
      rintro e w3 ⟨⟨ls, kk, aq, nq, Sq, rfl, hs3, hp3⟩, hb3⟩
      have K3 := Lib.hid (HK.out.below hb3)
      have hip := pg_new w3
      have HN3 : Hid (w.heap.size ≤ w3.heap.size) := K3.out.bel.size
      clear hb3 HK
      cases hlim : okx m lim
      · have e1 : cutR m 0 fr f lim = (1, 0, 0, []) := by unfold cutR; rw [hlim]; rfl
        rw [e1]
        clear e1 hp3 hs3
        go_wp2_with (refine wpList_st_page' rfl _ _ rfl w3.heap.size rfl _ _ _ _ _ _ rfl rfl hip (fun w4 hp4 hg4 => ?_); have D4 := Lib.hid (K3.out.bel.trans ((new_below hg4).mono K3.out.bel.size)); clear hg4 hp4)
        clear K3
        refine (awake_k _).mono ?_
        rintro e w5 ⟨rfl, hb5⟩
        have D5 := Lib.hid (D4.out.trans (hb5.mono D4.out.size))
        clear hb5
        go_wp2_with fail
        go_ret
        exact ⟨rfl, D5.out⟩
      · obtain ⟨G, hG⟩ : ∃ G : Nat, (G : Int) = xgap m fr lim := ⟨(xgap m fr lim).toNat, by have := (xgap_bd m fr lim).1; omega⟩
        have e1 : cutR m 0 fr f lim = (0, 0, lim, bsOf (cutN m fr f G) (sz m)) := by
          unfold cutR; rw [if_pos hlim]
          have e : (xgap m fr lim).toNat = G := by omega
          rw [e]
        rw [e1] at hp3 ⊢
        clear e1
        obtain ⟨rfl, rfl, rfl, h3⟩ := pr_of hp3 hs3 HM.out hlim (by decide) (cutN_out K3.out.lv.pr.hf G)
        have H3 := Lib.hid h3
        have HG : Hid (xadd m fr G = lim ∧ (G : Int) < m) := by unfold Hid; rw [hG]; exact xadd_gap HM.out HF.out hlim
        clear h3 hp3 hs3 hG hlim
        obtain ⟨g, hg⟩ : ∃ g, g = cutN m fr f G := ⟨_, rfl⟩
        have HGG := Lib.hid hg
        rw [← hg] at H3
        clear hg
        go_wp2_with (refine wpList_st_page' rfl _ _ rfl w3.heap.size rfl _ _ _ _ _ _ rfl rfl hip (fun w4 hp4 hg4 => ?_); have K4 := Lib.hid (K3.out.below (new_below hg4)); have L4 : Hid (LV m w4 w3.heap.size 0 lim g aq Sq) := (by exact ⟨hp4, H3.out.below (new_below hg4)⟩); (obtain ⟨c0, c1, c2, c3, c4, c5⟩ := hp4.cell); clear hg4 hp4)
        clear c0 c1 c2 c3 c4 c5 hip K3 H3
        generalize w3.heap.size = bq at *
        refine (pr_frozen m 0 lim g _ _ _ L4.out.pr).mono ?_
        rintro e w5 ⟨rfl, hb5⟩
        have K5 := Lib.hid (K4.out.below hb5)
        have L5 := Lib.hid (L4.out.below hb5)
        clear hb5 K4 L4
        obtain ⟨u0, u1⟩ := K5.out.box.cell
        have hll : (lim != lim) = false := by simp
        go_wp2_with fail
        clear u0 u1
        have hmb := okm_bd HM.out
        go_loopw [16, 17, 18] (fun i c q wr => ∃ K : Nat, (K : Int) ≤ m ∧ q = .int .i64 K ∧ i = .int .i64 (xadd m fr K) ∧ c = .bool (decide (K ≤ G)) ∧ Hid (CS w wr m lim bx ao k cap bp fr f ap S ∧ LV m wr bq 0 lim g aq Sq)) (fun _ _ q _ => m.toNat - (intOf q).toNat)
        case atStart => exact ⟨0, by omega, rfl, by rw [show ((0 : Nat) : Int) = 0 from rfl, xadd_zero HM.out HF.out], by simp, K5.out, L5.out⟩
        case round =>
          obtain ⟨K, hK, rfl, rfl, rfl, HS⟩ := hrel
          by_cases hlt : (K : Int) < m
          · obtain ⟨c0, c1, c2, c3, c4, c5⟩ := HS.out.1.lv.pk.cell
            obtain ⟨d0, d1, d2, d3, d4, d5⟩ := HS.out.2.pk.cell
            obtain ⟨u0, u1⟩ := HS.out.1.box.cell
            have HZB := Lib.hid (xadd_bd HM.out HF.out (K : Int))
            have HNX := Lib.hid (xadd_next HM.out HF.out (K : Int))
            have HNB := Lib.hid (xadd_bd HM.out HF.out ((K : Int) + 1))
            have HEQ : Hid (xadd m fr K = lim ↔ K = G) := by
              unfold Hid
              constructor
              · intro e; rw [← HG.out.1] at e; exact xadd_inj HM.out HF.out hlt HG.out.2 e
              · rintro rfl; exact HG.out.1
            have HHIT : Hid (K < G → g (xadd m fr K - 1).toNat = 0) := fun hq => by rw [HGG.out]; exact cutN_hit m fr f G K hq
            have HMISS : Hid (G ≤ K → g (xadd m fr K - 1).toNat = f (xadd m fr K - 1).toNat) := fun hq => by rw [HGG.out]; exact cutN_miss HM.out HF.out f G K hlt (by have := HG.out.2; omega) hq
            generalize xadd m fr K = z at *
            have hx : okx m z = true := okx_yes HZB.out.1 HZB.out.2
            obtain ⟨y, hy⟩ : ∃ y, y = f (z - 1).toNat := ⟨_, rfl⟩
            have HGF : Hid (getR m f z = ((y : Int), 0)) := by unfold Hid getR; rw [if_pos hx, hy]
            rcases Nat.lt_trichotomy K G with hKG | hKG | hKG
            · have hzl : (z == lim) = false := by rw [beq_eq_false_iff_ne]; intro e; have := HEQ.out.1 e; omega
              have HGQ : Hid (getR m g z = (0, 0)) := by unfold Hid getR; rw [if_pos hx, HHIT.out hKG]; rfl
              have hd : decide (K ≤ G) = true := decide_eq_true (by omega)
              have HD2 : Hid (decide (K + 1 ≤ G) = true) := decide_eq_true (by omega)
              rw [hd]
              clear hy hx hd hKG HHIT HMISS
              clear u0
              go_wp2_with fail
              clear c0 c1 c2 c3 c4 c5 d0 d1 d2 d3 d4 d5 u1
              refine (pr_get m 0 fr _ f _ _ _ HS.out.1.lv.pr).mono ?_
              rintro e w6 ⟨rfl, hb6⟩
              rw [HGF.out]
              have HS6 : Hid (CS w w6 m lim bx ao k cap bp fr f ap S ∧ LV m w6 bq 0 lim g aq Sq) := ⟨HS.out.1.below hb6, HS.out.2.below hb6⟩
              clear hb6 HS
              obtain ⟨c0, c1, c2, c3, c4, c5⟩ := HS6.out.1.lv.pk.cell
              obtain ⟨d0, d1, d2, d3, d4, d5⟩ := HS6.out.2.pk.cell
              go_wp2_with fail
              clear c0 c1 c2 c3 c4 c5 d0 d1 d2 d3 d4 d5
              refine (pr_get m 0 lim _ g _ _ _ HS6.out.2.pr).mono ?_
              rintro e w7 ⟨rfl, hb7⟩
              rw [HGQ.out]
              have HS7 : Hid (CS w w7 m lim bx ao k cap bp fr f ap S ∧ LV m w7 bq 0 lim g aq Sq) := ⟨HS6.out.1.below hb7, HS6.out.2.below hb7⟩
              clear hb7 HS6
              have hyy : ((y : Int) != (y : Int)) = false := by simp
              have hz1 := HZB.out.1
              have hz2 := HZB.out.2
              have hm2 := hmb.2.1
              have hm1 := hmb.1
              go_wp2_with fail
              go_roundw
              case rel =>
                refine ⟨K + 1, by omega, by go_num, ?_, ?_, HS7.out⟩
                · have e1 : ((K + 1 : Nat) : Int) = (K : Int) + 1 := by omega
                  have hq := HNB.out
                  rw [e1]
                  have hnx := HNX.out
                  generalize xadd m fr ((K : Int) + 1) = zn at *
                  rw [hnx]
                  have hmb3 := okm_bd HM.out
                  rw [IntWalk.wrap64_in zn (by clear hnx HNX HEQ HNB; omega)]
                · rw [HD2.out] <;> simp [bne, hzl]
              case measure => simp [intOf]; omega
            · have hzz : lim = z := (HEQ.out.2 hKG).symm
              subst hzz
              have hzl : (lim == lim) = true := by simp
              have HGQ : Hid (getR m g lim = ((y : Int), 0)) := by unfold Hid getR; rw [if_pos hx, HMISS.out (by omega), ← hy]
              have hd : decide (K ≤ G) = true := decide_eq_true (by omega)
              have HD2 : Hid (decide (K + 1 ≤ G) = false) := decide_eq_false (by omega)
              rw [hd]
              clear hy hx hd hKG HHIT HMISS
              clear u0
              go_wp2_with fail
              clear c0 c1 c2 c3 c4 c5 d0 d1 d2 d3 d4 d5 u1
              refine (pr_get m 0 fr _ f _ _ _ HS.out.1.lv.pr).mono ?_
              rintro e w6 ⟨rfl, hb6⟩
              rw [HGF.out]
              have HS6 : Hid (CS w w6 m lim bx ao k cap bp fr f ap S ∧ LV m w6 bq 0 lim g aq Sq) := ⟨HS.out.1.below hb6, HS.out.2.below hb6⟩
              clear hb6 HS
              obtain ⟨c0, c1, c2, c3, c4, c5⟩ := HS6.out.1.lv.pk.cell
              obtain ⟨d0, d1, d2, d3, d4, d5⟩ := HS6.out.2.pk.cell
              go_wp2_with fail
              clear c0 c1 c2 c3 c4 c5 d0 d1 d2 d3 d4 d5
              refine (pr_get m 0 lim _ g _ _ _ HS6.out.2.pr).mono ?_
              rintro e w7 ⟨rfl, hb7⟩
              rw [HGQ.out]
              have HS7 : Hid (CS w w7 m lim bx ao k cap bp fr f ap S ∧ LV m w7 bq 0 lim g aq Sq) := ⟨HS6.out.1.below hb7, HS6.out.2.below hb7⟩
              clear hb7 HS6
              have hyy : ((y : Int) != (y : Int)) = false := by simp
              have hz1 := HZB.out.1
              have hz2 := HZB.out.2
              have hm2 := hmb.2.1
              have hm1 := hmb.1
              go_wp2_with fail
              go_roundw
              case rel =>
                refine ⟨K + 1, by omega, by go_num, ?_, ?_, HS7.out⟩
                · have e1 : ((K + 1 : Nat) : Int) = (K : Int) + 1 := by omega
                  have hq := HNB.out
                  rw [e1]
                  have hnx := HNX.out
                  generalize xadd m fr ((K : Int) + 1) = zn at *
                  rw [hnx]
                  have hmb3 := okm_bd HM.out
                  rw [IntWalk.wrap64_in zn (by clear hnx HNX HEQ HNB; omega)]
                · rw [HD2.out] <;> simp [bne, hzl]
              case measure => simp [intOf]; omega
            · have hzl : (z == lim) = false := by rw [beq_eq_false_iff_ne]; intro e; have := HEQ.out.1 e; omega
              have HGQ : Hid (getR m g z = ((y : Int), 0)) := by unfold Hid getR; rw [if_pos hx, HMISS.out (by omega), ← hy]
              have hd : decide (K ≤ G) = false := decide_eq_false (by omega)
              have HD2 : Hid (decide (K + 1 ≤ G) = false) := decide_eq_false (by omega)
              rw [hd]
              clear hy hx hd hKG HHIT HMISS
              clear u0
              go_wp2_with fail
              clear c0 c1 c2 c3 c4 c5 d0 d1 d2 d3 d4 d5 u1
              refine (pr_get m 0 fr _ f _ _ _ HS.out.1.lv.pr).mono ?_
              rintro e w6 ⟨rfl, hb6⟩
              rw [HGF.out]
              have HS6 : Hid (CS w w6 m lim bx ao k cap bp fr f ap S ∧ LV m w6 bq 0 lim g aq Sq) := ⟨HS.out.1.below hb6, HS.out.2.below hb6⟩
              clear hb6 HS
              obtain ⟨c0, c1, c2, c3, c4, c5⟩ := HS6.out.1.lv.pk.cell
              obtain ⟨d0, d1, d2, d3, d4, d5⟩ := HS6.out.2.pk.cell
              go_wp2_with fail
              clear c0 c1 c2 c3 c4 c5 d0 d1 d2 d3 d4 d5
              refine (pr_get m 0 lim _ g _ _ _ HS6.out.2.pr).mono ?_
              rintro e w7 ⟨rfl, hb7⟩
              rw [HGQ.out]
              have HS7 : Hid (CS w w7 m lim bx ao k cap bp fr f ap S ∧ LV m w7 bq 0 lim g aq Sq) := ⟨HS6.out.1.below hb7, HS6.out.2.below hb7⟩
              clear hb7 HS6
              have hyy : ((y : Int) != (y : Int)) = false := by simp
              have hz1 := HZB.out.1
              have hz2 := HZB.out.2
              have hm2 := hmb.2.1
              have hm1 := hmb.1
              go_wp2_with fail
              go_roundw
              case rel =>
                refine ⟨K + 1, by omega, by go_num, ?_, ?_, HS7.out⟩
                · have e1 : ((K + 1 : Nat) : Int) = (K : Int) + 1 := by omega
                  have hq := HNB.out
                  rw [e1]
                  have hnx := HNX.out
                  generalize xadd m fr ((K : Int) + 1) = zn at *
                  rw [hnx]
                  have hmb3 := okm_bd HM.out
                  rw [IntWalk.wrap64_in zn (by clear hnx HNX HEQ HNB; omega)]
                · rw [HD2.out] <;> simp [bne, hzl]
              case measure => simp [intOf]; omega
          · go_wp2_with fail
            refine (awake_k _).mono ?_
            rintro e w6 ⟨rfl, hb6⟩
            have D6 := Lib.hid (HS.out.1.bel.trans (hb6.mono HS.out.1.bel.size))
            clear hb6 HS
            go_wp2_with fail
            go_ret
            exact ⟨rfl, D6.out⟩
end Go.Proofs.Ytpmhcpphbilokaa
