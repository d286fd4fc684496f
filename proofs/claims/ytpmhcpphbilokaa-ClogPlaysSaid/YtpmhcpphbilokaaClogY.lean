/- Statuses: the walk of ClogPlays. -/
import Derived.Test.YtpmhcpphbilokaaClogW
namespace Go.Proofs.Ytpmhcpphbilokaa
open Go.RowKit
set_option linter.unusedSimpArgs false
set_option maxRecDepth 100000

theorem wpList_st_op {ops : Array Oper} {rest : List Oper} {o : Oper} {a : Act} {w : World} {Q : Exit → Act → World → Prop} (hgd : o.guard = none) (x y : Operand) (ho : o.op = .store 32 x y)
    (b : Nat) (hx : a.eval x = .pointer (some ⟨b, 0, none⟩)) (c : Bool) (z s : Int) (hy : a.eval y = .agg #[.bool c, .int .i64 z, .int .u8 s]) {c0 : Bool} {z0 s0 : Int} (H : OB w b c0 z0 s0)
    (h : ∀ w', OB w' b c z s → w.grownBy w' (some b) → wpList Try.prog ops Q rest (a.put o.dst undef) w') : wpList Try.prog ops Q (o :: rest) a w :=
  wpList_store_row hgd _ x y ho b _ hx hy _ _ H (by kernel_rfl) rfl (by rw [Array.all_eq_true_iff_forall_mem]; intro v hv; simp at hv; rcases hv with rfl | rfl | rfl <;> rfl) (h _ (setRow_heap w b _ _ _ _ H) ⟨rfl, rfl, rfl, by rw [setRow_size]; exact Nat.le_refl _, fun k _ hk => setRow_other w b k _ (fun e => hk (by rw [e]))⟩)
theorem ob_new (w : World) : OB (w.alloc (.cells #[.bool false, .int .i64 0, .int .u8 0] 32)) w.heap.size false 0 0 := heap_alloc_new w _

/-- The two pages of ClogPlays. -/
structure PL (W wx : World) (m : Int) (bp bq : Nat) (F : Int) (f : Nat → Nat) (ap : Option Addr) (Sp : Nat → ByteArray) (aq : Option Addr) (Sq : Nat → ByteArray) : Prop where
  p : LV m wx bp 0 F f ap Sp
  q : LV m wx bq 0 F f aq Sq
  bel : Below W.heap.size W wx
  n0 : W.heap.size ≤ bp
  n1 : bp < bq
theorem PL.below {W wx w' : World} {m : Int} {bp bq : Nat} {F : Int} {f : Nat → Nat} {ap : Option Addr} {Sp : Nat → ByteArray} {aq : Option Addr} {Sq : Nat → ByteArray} (H : PL W wx m bp bq F f ap Sp aq Sq) (hb : Below wx.heap.size wx w') : PL W w' m bp bq F f ap Sp aq Sq :=
  ⟨H.p.below hb, H.q.below hb, H.bel.trans (hb.mono H.bel.size), H.n0, H.n1⟩
theorem PL.kept {W wx w' : World} {m : Int} {bp bq : Nat} {F : Int} {f : Nat → Nat} {ap : Option Addr} {Sp : Nat → ByteArray} {aq : Option Addr} {Sq : Nat → ByteArray} (H : PL W wx m bp bq F f ap Sp aq Sq) {b : Nat} {a0 a1 a2 a3 : Int} {u : ByteArray} {ao' : Option Addr} {n' c' : Nat} (P : PK wx b a0 a1 a2 a3 u (.slice ao' n' c')) (hg : wx.grownBy w' (some b)) (hb : bq < b) : PL W w' m bp bq F f ap Sp aq Sq := by
  have h0 := H.n0; have h1 := H.n1
  exact ⟨H.p.st P hg (by omega), H.q.st P hg (by omega), below_own H.bel (by omega) hg, h0, h1⟩
/-- A change, and the pages that it gives, while both are the same. -/
structure PM (W wx : World) (m : Int) (bp bq : Nat) (F : Int) (f : Nat → Nat) (ap : Option Addr) (Sp : Nat → ByteArray) (aq : Option Addr) (Sq : Nat → ByteArray) (bo : Nat) (c : Bool) (x s : Int) : Prop where
  pl : PL W wx m bp bq F f ap Sp aq Sq
  ob : OB wx bo c x s
  n2 : bq < bo
theorem PM.below {W wx w' : World} {m : Int} {bp bq : Nat} {F : Int} {f : Nat → Nat} {ap : Option Addr} {Sp : Nat → ByteArray} {aq : Option Addr} {Sq : Nat → ByteArray} {bo : Nat} {c : Bool} {x s : Int} (H : PM W wx m bp bq F f ap Sp aq Sq bo c x s) (hb : Below wx.heap.size wx w') : PM W w' m bp bq F f ap Sp aq Sq bo c x s :=
  ⟨H.pl.below hb, H.ob.below hb, H.n2⟩
theorem PM.kept {W wx w' : World} {m : Int} {bp bq : Nat} {F : Int} {f : Nat → Nat} {ap : Option Addr} {Sp : Nat → ByteArray} {aq : Option Addr} {Sq : Nat → ByteArray} {bo : Nat} {c : Bool} {x s : Int} (H : PM W wx m bp bq F f ap Sp aq Sq bo c x s) {b : Nat} {a0 a1 a2 a3 : Int} {u : ByteArray} {ao' : Option Addr} {n' c' : Nat} (P : PK wx b a0 a1 a2 a3 u (.slice ao' n' c')) (hg : wx.grownBy w' (some b)) (hb : bo < b) : PM W w' m bp bq F f ap Sp aq Sq bo c x s :=
  ⟨H.pl.kept P hg (Nat.lt_trans H.n2 hb), H.ob.grown hg (by simpa using H.ob.ne P), H.n2⟩

/-- What a change gives: a right page, or none. -/
theorem cut_or_set (m F : Int) (f : Nat → Nat) (hF : okx m F = true) (hf : okf f m.toNat) (c : Bool) (x s : Int) :
    ((if c then cutR m 0 F f x else setR m 0 F f x s).1 = 1) ∨ ((if c then cutR m 0 F f x else setR m 0 F f x s).1 = 0 ∧ ∃ F' f', okx m F' = true ∧ okf f' m.toNat ∧ (if c then cutR m 0 F f x else setR m 0 F f x s) = (0, 0, F', bsOf f' (sz m))) := by
  cases c
  · simp only [Bool.false_eq_true, if_false]
    by_cases hA : okx m x = true ∧ s ≤ 3
    · have e : setR m 0 F f x s = (0, 0, F, bsOf (upd f (x - 1).toNat s.toNat) (sz m)) := by unfold setR; rw [if_pos hA]
      exact .inr ⟨by rw [e], F, _, hF, set_ok hf hA.1 hA.2, e⟩
    · exact .inl (by unfold setR; rw [if_neg hA])
  · simp only [if_true]
    by_cases hA : okx m x = true
    · have e : cutR m 0 F f x = (0, 0, x, bsOf (cutN m F f (xgap m F x).toNat) (sz m)) := by unfold cutR; rw [if_pos hA]
      exact .inr ⟨by rw [e], x, _, hA, cutN_out hf _, e⟩
    · exact .inl (by unfold cutR; rw [if_neg hA])

set_option maxHeartbeats 4000000 in
theorem clogPlays_w (m fr : Int) (ao : Option Addr) (len cap : Nat) (C : Nat → Bool) (X T : Nat → Int) (w : World) (hlen : len ≤ 9223372036854775807) (ho : OpsIn w ao len C X T) :
    Calls Try.prog 3 #[.int .i64 m, .int .i64 fr, .slice ao len cap] w fun e w' => e = .returned (.bool true) ∧ Below w.heap.size w w' := by
  have HO := Lib.hid ho
  clear ho
  go_enter Try.func3, Try.ntmps3
  go_wp2_with fail
  refine (blank_c m fr w).mono ?_
  rintro e w1 ⟨⟨ls1, k1, ao1, n1, S1, rfl, hs1, hp1⟩, hb1⟩
  have D1 := Lib.hid hb1
  have hip := pg_new w1
  have HN1 : Hid (w.heap.size ≤ w1.heap.size) := hb1.size
  have HS1 := Lib.hid hs1
  have HP1 := Lib.hid hp1
  clear hb1 hs1 hp1
  go_wp2_with (refine wpList_st_page' rfl _ _ rfl w1.heap.size rfl _ _ _ _ _ _ rfl rfl hip (fun w2 hp2 hg2 => ?_); have D2 := Lib.hid (D1.out.trans ((new_below hg2).mono D1.out.size)); have G2 : Hid (GP w2 w1.heap.size (blV m fr) ls1 k1 ao1 n1 S1) := (by exact ⟨hp2, HS1.out.below (new_below hg2) rfl, HP1.out⟩); clear hg2 hp2)
  clear hip D1 HS1 HP1
  generalize w1.heap.size = bp at *
  refine (rblank_c m fr w2).mono ?_
  rintro e w3 ⟨⟨ls2, k2, ao2, n2, S2, rfl, hs2, hp2⟩, hb2⟩
  have D3 := Lib.hid (D2.out.trans (hb2.mono D2.out.size))
  have G3 := Lib.hid (G2.out.below hb2)
  have HNQ : Hid (bp < w3.heap.size) := G3.out.pk.lt
  have hip := pg_new w3
  have HS2 := Lib.hid hs2
  have HP2 := Lib.hid hp2
  have z1 : ((blV m fr).1 != (blV m fr).1) = false := by simp
  clear hb2 hs2 hp2 D2 G2
  go_wp2_with (refine wpList_st_page' rfl _ _ rfl w3.heap.size rfl _ _ _ _ _ _ rfl rfl hip (fun w4 hp4 hg4 => ?_); have D4 := Lib.hid (D3.out.trans ((new_below hg4).mono D3.out.size)); have G4 := Lib.hid (G3.out.below (new_below hg4)); have K4 : Hid (GP w4 w3.heap.size (blV m fr) ls2 k2 ao2 n2 S2) := (by exact ⟨hp4, HS2.out.below (new_below hg4) rfl, HP2.out⟩); (obtain ⟨c0, c1, c2, c3, c4, c5⟩ := G4.out.pk.cell); (obtain ⟨d0, d1, d2, d3, d4, d5⟩ := K4.out.pk.cell); clear hg4 hp4)
  clear hip D3 HS2 HP2 c0 c1 c2 c3 c4 c5 d0 d1 d2 d3 d4 d5 G3
  generalize w3.heap.size = bq at *
  refine (gp_same G4.out K4.out).mono ?_
  rintro e w5 ⟨rfl, hb⟩
  have D5 := Lib.hid (D4.out.trans (hb.mono D4.out.size))
  have G5 := Lib.hid (G4.out.below hb)
  have K5 := Lib.hid (K4.out.below hb)
  clear hb D4 G4 K4 z1
  cases hmf : (okm m && okx m fr)
  · have e1 : (blV m fr).1 = 1 := by unfold blV; rw [hmf]; rfl
    rw [e1]
    go_wp2_with fail
    go_loopw [11] (fun i wr => i = .int .i64 0 ∧ Hid (Below w.heap.size w wr)) (fun _ _ => 0)
    case atStart => exact ⟨rfl, D5.out⟩
    case round =>
      obtain ⟨rfl, HD⟩ := hrel
      by_cases hl0 : 0 < len
      · go_wp2_with fail
        refine (awake_k _).mono ?_
        rintro e w6 ⟨rfl, hb⟩
        have D6 := Lib.hid (HD.out.trans (hb.mono HD.out.size))
        clear hb
        go_wp2_with fail
        go_ret
        exact ⟨rfl, D6.out⟩
      · go_wp2_with fail
        refine (awake_k _).mono ?_
        rintro e w6 ⟨rfl, hb⟩
        have D6 := Lib.hid (HD.out.trans (hb.mono HD.out.size))
        clear hb
        go_wp2_with fail
        go_ret
        exact ⟨rfl, D6.out⟩
  have hmf2 := hmf
  rw [Bool.and_eq_true] at hmf2
  obtain ⟨hm, hF⟩ := hmf2
  have e1 : blV m fr = (0, 0, fr, bsOf (fun _ => 0) (sz m)) := by unfold blV; rw [hmf]; rfl
  rw [e1] at G5 K5 ⊢
  obtain ⟨q1, q2, q3, L1⟩ := pr_of G5.out.ps G5.out.it hm hF (by decide) (okf_zero _)
  obtain ⟨r1, r2, r3, M1⟩ := pr_of K5.out.ps K5.out.it hm hF (by decide) (okf_zero _)
  subst q1 q2 q3 r1 r2 r3
  have P5 : Hid (PL w w5 m bp bq fr (fun _ => 0) ao1 S1 ao2 S2) := ⟨⟨G5.out.pk, L1⟩, ⟨K5.out.pk, M1⟩, D5.out, HN1.out, HNQ.out⟩
  have HM := Lib.hid hm
  clear e1 hmf hF L1 M1 G5 K5 D5 HN1 HNQ hm
  go_wp2_with fail
  go_loopw [11] (fun i wr => ∃ k : Nat, k ≤ len ∧ i = .int .i64 k ∧ ∃ F f ap Sp aq Sq, Hid (PL w wr m bp bq F f ap Sp aq Sq)) (fun i _ => len - (intOf i).toNat)
  case atStart => exact ⟨0, Nat.zero_le _, rfl, _, _, _, _, _, _, P5.out⟩
  case round =>
    obtain ⟨k, hk, rfl, F, f, ap, Sp, aq, Sq, HK⟩ := hrel
    by_cases hlt : k < len
    · obtain ⟨b, off, rfl, hx0, hx1, hx2, ht0⟩ := HO.out.at hlt
      have y0 := bel_at HK.out.bel hx0
      have y1 := bel_at HK.out.bel hx1
      have y2 := bel_at HK.out.bel hx2
      generalize C k = c at *
      generalize X k = x at *
      generalize T k = s at *
      have hon := ob_new wr
      clear hx0 hx1 hx2
      go_wp2_with (refine wpList_st_op rfl _ _ rfl wr.heap.size rfl _ _ _ rfl hon (fun wz hoz hgz => ?_); have Q0 : Hid (PM w wz m bp bq F f ap Sp aq Sq wr.heap.size c x s) := (by exact ⟨HK.out.below (new_below hgz), hoz, HK.out.q.pk.lt⟩); (obtain ⟨d0, d1, d2⟩ := hoz.cell); (obtain ⟨c0, c1, c2, c3, c4, c5⟩ := Q0.out.pl.p.pk.cell); clear hgz hoz)
      clear c0 c1 c2 c3 c4 c5 d0 d1 d2 y0 y1 y2 hon HK
      generalize wr.heap.size = bo at *
      refine (pr_set m 0 F x s f ap Sp wz Q0.out.pl.p.pr ht0).mono ?_
      rintro e wa ⟨⟨lA, kA, aA, nA, SA, rfl, hsA, hpA⟩, hb⟩
      have Q1 := Lib.hid (Q0.out.below hb)
      have HSA := Lib.hid hsA
      have HPA := Lib.hid hpA
      have hip := pg_new wa
      have HOA : Hid (bo < wa.heap.size) := Q1.out.ob.lt
      clear hb hsA hpA Q0
      go_wp2_with (refine wpList_st_page' rfl _ _ rfl wa.heap.size rfl _ _ _ _ _ _ rfl rfl hip (fun wb hpb hgb => ?_); have Q2 := Lib.hid (Q1.out.below (new_below hgb)); have G2 : Hid (GP wb wa.heap.size (setR m 0 F f x s) lA kA aA nA SA) := (by exact ⟨hpb, HSA.out.below (new_below hgb) rfl, HPA.out⟩); (obtain ⟨d0, d1, d2⟩ := Q2.out.ob.cell); (obtain ⟨c0, c1, c2, c3, c4, c5⟩ := Q2.out.pl.q.pk.cell); clear hgb hpb Q1 HSA HPA)
      clear c0 c1 c2 c3 c4 c5 d0 d1 d2 hip
      generalize wa.heap.size = ba at *
      refine (pr_rset m 0 F x s f aq Sq wb Q2.out.pl.q.pr ht0).mono ?_
      rintro e wc ⟨⟨lB, kB, aB, nB, SB, rfl, hsB, hpB⟩, hb⟩
      have Q3 := Lib.hid (Q2.out.below hb)
      have G3 := Lib.hid (G2.out.below hb)
      have HSB := Lib.hid hsB
      have HPB := Lib.hid hpB
      have hip := pg_new wc
      have HAB : Hid (bo < ba ∧ ba < wc.heap.size) := ⟨HOA.out, G3.out.pk.lt⟩
      clear hb hsB hpB Q2 G2
      cases c
      · go_wp2_with (refine wpList_st_page' rfl _ _ rfl wc.heap.size rfl _ _ _ _ _ _ rfl rfl hip (fun wd hpd hgd => ?_); have Q9 := Lib.hid (Q3.out.below (new_below hgd)); have GA := Lib.hid (G3.out.below (new_below hgd)); have GB : Hid (GP wd wc.heap.size (setR m 0 F f x s) lB kB aB nB SB) := (by exact ⟨hpd, HSB.out.below (new_below hgd) rfl, HPB.out⟩); have z1 : ((setR m 0 F f x s).1 != (setR m 0 F f x s).1) = false := (by simp); (obtain ⟨d0, d1, d2⟩ := Q9.out.ob.cell); (obtain ⟨c0, c1, c2, c3, c4, c5⟩ := GA.out.pk.cell); (obtain ⟨e0, e1, e2, e3, e4, e5⟩ := GB.out.pk.cell); clear hgd hpd Q3 G3 HSB HPB)
        clear c0 c1 c2 c3 c4 c5 d0 d1 d2 e0 e1 e2 e3 e4 e5 hip
        generalize wc.heap.size = bb at *
        have HCS := Lib.hid (cut_or_set m F f Q9.out.pl.p.pr.hF Q9.out.pl.p.pr.hf false x s)
        refine (gp_same GA.out GB.out).mono ?_
        rintro e wq ⟨rfl, hb⟩
        have Q10 := Lib.hid (Q9.out.below hb)
        have GA10 := Lib.hid (GA.out.below hb)
        have GB10 := Lib.hid (GB.out.below hb)
        clear hb Q9 GA GB z1
        rcases HCS.out with hE | ⟨hE, F', f', hF', hf', ho'⟩
        · (try simp only [Bool.false_eq_true, if_false, if_true] at hE)
          rw [hE]
          clear HCS
          go_wp2_with fail
          go_roundw
          case rel => exact ⟨k + 1, by omega, by go_num, _, _, _, _, _, _, Q10.out.pl⟩
          case measure => simp [intOf]; omega
        · (try simp only [Bool.false_eq_true, if_false, if_true] at hE ho')
          rw [ho'] at GA10 GB10
          obtain ⟨q1, q2, q3, LA⟩ := pr_of GA10.out.ps GA10.out.it HM.out hF' (by decide) hf'
          obtain ⟨r1, r2, r3, LB⟩ := pr_of GB10.out.ps GB10.out.it HM.out hF' (by decide) hf'
          subst q1 q2 q3 r1 r2 r3
          rw [hE]
          have HLA : Hid (LV m wq ba 0 F' f' aA SA) := ⟨GA10.out.pk, LA⟩
          have HLB : Hid (LV m wq bb 0 F' f' aB SB) := ⟨GB10.out.pk, LB⟩
          have hip1 := Q10.out.pl.p.pk.is
          obtain ⟨c0, c1, c2, c3, c4, c5⟩ := HLA.out.pk.cell
          clear HCS LA LB GA10 GB10 hE ho' hF' hf'
          go_wp2_with (first
            | (refine wpList_st_page' rfl _ _ rfl bp rfl _ _ _ _ _ _ rfl rfl hip1 (fun w8 hp8 hg8 => ?_); have h1 := Q10.out.pl.n1; have h2 := Q10.out.n2; have h3 := HAB.out; have HLP : Hid (LV m w8 bp 0 F' f' aA SA) := (by exact ⟨hp8, HLA.out.pr.st Q10.out.pl.p.pk hg8⟩); have HLQ := Lib.hid (Q10.out.pl.q.st Q10.out.pl.p.pk hg8 (by omega)); have HLB8 := Lib.hid (HLB.out.st Q10.out.pl.p.pk hg8 (by omega)); have HB8 := Lib.hid (below_own Q10.out.pl.bel Q10.out.pl.n0 hg8); have hip2 := HLQ.out.pk.is; clear c0 c1 c2 c3 c4 c5 hp8 hg8 h1 h2 h3; (obtain ⟨c0, c1, c2, c3, c4, c5⟩ := HLB8.out.pk.cell))
            | (refine wpList_st_page' rfl _ _ rfl bq rfl _ _ _ _ _ _ rfl rfl hip2 (fun w9 hp9 hg9 => ?_); have h1 := Q10.out.pl.n1; have h0 := Q10.out.pl.n0; have HFIN : Hid (PL w w9 m bp bq F' f' aA SA aB SB) := (by exact ⟨HLP.out.st HLQ.out.pk hg9 (by omega), ⟨hp9, HLB8.out.pr.st HLQ.out.pk hg9⟩, below_own HB8.out (by omega) hg9, h0, h1⟩); clear c0 c1 c2 c3 c4 c5 hp9 hg9 h1 h0))
          go_roundw
          case rel => exact ⟨k + 1, by omega, by go_num, _, _, _, _, _, _, HFIN.out⟩
          case measure => simp [intOf]; omega
      · go_wp2_with (refine wpList_st_page' rfl _ _ rfl wc.heap.size rfl _ _ _ _ _ _ rfl rfl hip (fun wd hpd hgd => ?_); have Q4 := Lib.hid (Q3.out.below (new_below hgd)); have G4 := Lib.hid (G3.out.below (new_below hgd)); have K4 : Hid (GP wd wc.heap.size (setR m 0 F f x s) lB kB aB nB SB) := (by exact ⟨hpd, HSB.out.below (new_below hgd) rfl, HPB.out⟩); (obtain ⟨d0, d1, d2⟩ := Q4.out.ob.cell); (obtain ⟨c0, c1, c2, c3, c4, c5⟩ := Q4.out.pl.p.pk.cell); clear hgd hpd Q3 G3 HSB HPB)
        clear c0 c1 c2 c3 c4 c5 d0 d1 d2 hip
        generalize wc.heap.size = bb at *
        refine (pr_cut m 0 F x f ap Sp wd Q4.out.pl.p.pr).mono ?_
        rintro e we ⟨⟨lA2, kA2, aA2, nA2, SA2, rfl, hsA, hpA⟩, hb⟩
        have Q5 := Lib.hid (Q4.out.below hb)
        have G5 := Lib.hid (G4.out.below hb)
        have K5 := Lib.hid (K4.out.below hb)
        have HSA := Lib.hid hsA
        have HPA := Lib.hid hpA
        have hip := G5.out.pk.is
        clear hb hsA hpA Q4 G4 K4
        go_wp2_with (refine wpList_st_page' rfl _ _ rfl ba rfl _ _ _ _ _ _ rfl rfl hip (fun wf hpf hgf => ?_); have h3 := HAB.out; have Q6 := Lib.hid (Q5.out.kept G5.out.pk hgf h3.1); have G6 : Hid (GP wf ba (cutR m 0 F f x) lA2 kA2 aA2 nA2 SA2) := (by exact ⟨hpf, HSA.out.st HPA.out.two G5.out.pk hgf, HPA.out⟩); have K6 := Lib.hid (K5.out.st G5.out.pk hgf (by omega)); (obtain ⟨d0, d1, d2⟩ := Q6.out.ob.cell); (obtain ⟨c0, c1, c2, c3, c4, c5⟩ := Q6.out.pl.q.pk.cell); clear hgf hpf Q5 G5 K5 HSA HPA h3)
        clear c0 c1 c2 c3 c4 c5 d0 d1 d2 hip
        refine (pr_rcut m 0 F x f aq Sq wf Q6.out.pl.q.pr).mono ?_
        rintro e wg ⟨⟨lB2, kB2, aB2, nB2, SB2, rfl, hsB, hpB⟩, hb⟩
        have Q7 := Lib.hid (Q6.out.below hb)
        have G7 := Lib.hid (G6.out.below hb)
        have K7 := Lib.hid (K6.out.below hb)
        have HSB := Lib.hid hsB
        have HPB := Lib.hid hpB
        have hip := K7.out.pk.is
        clear hb hsB hpB Q6 G6 K6
        have z1 : ((cutR m 0 F f x).1 != (cutR m 0 F f x).1) = false := by simp
        go_wp2_with (refine wpList_st_page' rfl _ _ rfl bb rfl _ _ _ _ _ _ rfl rfl hip (fun wh hph hgh => ?_); have h3 := HAB.out; have Q9 := Lib.hid (Q7.out.kept K7.out.pk hgh (by omega)); have GA := Lib.hid (G7.out.st K7.out.pk hgh (by omega)); have GB : Hid (GP wh bb (cutR m 0 F f x) lB2 kB2 aB2 nB2 SB2) := (by exact ⟨hph, HSB.out.st HPB.out.two K7.out.pk hgh, HPB.out⟩); (obtain ⟨d0, d1, d2⟩ := Q9.out.ob.cell); (obtain ⟨c0, c1, c2, c3, c4, c5⟩ := GA.out.pk.cell); (obtain ⟨e0, e1, e2, e3, e4, e5⟩ := GB.out.pk.cell); clear hgh hph Q7 G7 K7 HSB HPB h3)
        clear c0 c1 c2 c3 c4 c5 d0 d1 d2 e0 e1 e2 e3 e4 e5 hip
        have HCS := Lib.hid (cut_or_set m F f Q9.out.pl.p.pr.hF Q9.out.pl.p.pr.hf true x s)
        refine (gp_same GA.out GB.out).mono ?_
        rintro e wq ⟨rfl, hb⟩
        have Q10 := Lib.hid (Q9.out.below hb)
        have GA10 := Lib.hid (GA.out.below hb)
        have GB10 := Lib.hid (GB.out.below hb)
        clear hb Q9 GA GB z1
        rcases HCS.out with hE | ⟨hE, F', f', hF', hf', ho'⟩
        · (try simp only [Bool.false_eq_true, if_false, if_true] at hE)
          rw [hE]
          clear HCS
          go_wp2_with fail
          go_roundw
          case rel => exact ⟨k + 1, by omega, by go_num, _, _, _, _, _, _, Q10.out.pl⟩
          case measure => simp [intOf]; omega
        · (try simp only [Bool.false_eq_true, if_false, if_true] at hE ho')
          rw [ho'] at GA10 GB10
          obtain ⟨q1, q2, q3, LA⟩ := pr_of GA10.out.ps GA10.out.it HM.out hF' (by decide) hf'
          obtain ⟨r1, r2, r3, LB⟩ := pr_of GB10.out.ps GB10.out.it HM.out hF' (by decide) hf'
          subst q1 q2 q3 r1 r2 r3
          rw [hE]
          have HLA : Hid (LV m wq ba 0 F' f' aA2 SA2) := ⟨GA10.out.pk, LA⟩
          have HLB : Hid (LV m wq bb 0 F' f' aB2 SB2) := ⟨GB10.out.pk, LB⟩
          have hip1 := Q10.out.pl.p.pk.is
          obtain ⟨c0, c1, c2, c3, c4, c5⟩ := HLA.out.pk.cell
          clear HCS LA LB GA10 GB10 hE ho' hF' hf'
          go_wp2_with (first
            | (refine wpList_st_page' rfl _ _ rfl bp rfl _ _ _ _ _ _ rfl rfl hip1 (fun w8 hp8 hg8 => ?_); have h1 := Q10.out.pl.n1; have h2 := Q10.out.n2; have h3 := HAB.out; have HLP : Hid (LV m w8 bp 0 F' f' aA2 SA2) := (by exact ⟨hp8, HLA.out.pr.st Q10.out.pl.p.pk hg8⟩); have HLQ := Lib.hid (Q10.out.pl.q.st Q10.out.pl.p.pk hg8 (by omega)); have HLB8 := Lib.hid (HLB.out.st Q10.out.pl.p.pk hg8 (by omega)); have HB8 := Lib.hid (below_own Q10.out.pl.bel Q10.out.pl.n0 hg8); have hip2 := HLQ.out.pk.is; clear c0 c1 c2 c3 c4 c5 hp8 hg8 h1 h2 h3; (obtain ⟨c0, c1, c2, c3, c4, c5⟩ := HLB8.out.pk.cell))
            | (refine wpList_st_page' rfl _ _ rfl bq rfl _ _ _ _ _ _ rfl rfl hip2 (fun w9 hp9 hg9 => ?_); have h1 := Q10.out.pl.n1; have h0 := Q10.out.pl.n0; have HFIN : Hid (PL w w9 m bp bq F' f' aA2 SA2 aB2 SB2) := (by exact ⟨HLP.out.st HLQ.out.pk hg9 (by omega), ⟨hp9, HLB8.out.pr.st HLQ.out.pk hg9⟩, below_own HB8.out (by omega) hg9, h0, h1⟩); clear c0 c1 c2 c3 c4 c5 hp9 hg9 h1 h0))
          go_roundw
          case rel => exact ⟨k + 1, by omega, by go_num, _, _, _, _, _, _, HFIN.out⟩
          case measure => simp [intOf]; omega
    · go_wp2_with fail
      refine (awake_k _).mono ?_
      rintro e w6 ⟨rfl, hb⟩
      have D6 := Lib.hid (HK.out.bel.trans (hb.mono HK.out.bel.size))
      clear hb
      go_wp2_with fail
      go_ret
      exact ⟨rfl, D6.out⟩
end Go.Proofs.Ytpmhcpphbilokaa
