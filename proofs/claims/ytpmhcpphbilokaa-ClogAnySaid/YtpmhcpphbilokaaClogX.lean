/- Statuses: the walk of ClogAny. -/
import Derived.Test.YtpmhcpphbilokaaClogW
namespace Go.Proofs.Ytpmhcpphbilokaa
open Go.RowKit
set_option linter.unusedSimpArgs false
set_option maxRecDepth 100000
attribute [local irreducible] wpQuiet

/-- The state of ClogAny. -/
structure AS (W wx : World) (bt : Nat) (a0 a1 a2 a3 : Int) (h : ByteArray) (ao : Option Addr) (len cap : Nat) (S : Nat → ByteArray) (bx : Nat) (cb : Bool) (x s : Int) : Prop where
  pb : PB W wx bt a0 a1 a2 a3 h ao len cap S
  ob : OB wx bx cb x s
theorem AS.below {W wx w' : World} {bt : Nat} {a0 a1 a2 a3 : Int} {h : ByteArray} {ao : Option Addr} {len cap : Nat} {S : Nat → ByteArray} {bx : Nat} {cb : Bool} {x s : Int} (H : AS W wx bt a0 a1 a2 a3 h ao len cap S bx cb x s) (hb : Below wx.heap.size wx w') : AS W w' bt a0 a1 a2 a3 h ao len cap S bx cb x s :=
  ⟨H.pb.below hb, H.ob.below hb⟩

set_option maxHeartbeats 4000000 in
theorem clogAny_w (m a0 a1 a2 a3 : Int) (h : ByteArray) (ao : Option Addr) (len cap : Nat) (S : Nat → ByteArray) (cb : Bool) (x s : Int) (w : World) (hs : StrsIn w ao len S) (hs0 : 0 ≤ s) :
    Calls Try.prog 5 #[.int .i64 m, .agg #[.int .i64 a0, .int .i64 a1, .int .i64 a2, .int .i64 a3, .string h, .slice ao len cap], .agg #[.bool cb, .int .i64 x, .int .u8 s]] w fun e w' => e = .returned (.bool true) ∧ Below w.heap.size w w' := by
  obtain ⟨wb, hwb⟩ : ∃ wb, wb = w.alloc (.cells #[.int .i64 a0, .int .i64 a1, .int .i64 a2, .int .i64 a3, .string h, .slice ao len cap] 25) := ⟨_, rfl⟩
  obtain ⟨wc, hwc⟩ : ∃ wc, wc = wb.alloc (.cells #[.bool cb, .int .i64 x, .int .u8 s] 32) := ⟨_, rfl⟩
  obtain ⟨bt, hbt⟩ : ∃ bt, bt = w.heap.size := ⟨_, rfl⟩
  obtain ⟨bx, hbx⟩ : ∃ bx, bx = w.heap.size + 1 := ⟨_, rfl⟩
  have H0 : PB w wb bt a0 a1 a2 a3 h ao len cap S := by rw [hwb, hbt]; exact PB.new w a0 a1 a2 a3 h ao len cap S hs
  have e2 : bx = wb.heap.size := by rw [hbx, hwb]; simp
  have A0 : Hid (AS w wc bt a0 a1 a2 a3 h ao len cap S bx cb x s) := by
    refine ⟨?_, ?_⟩
    · rw [hwc]; exact H0.below ((Below.refl _ _).alloc (Nat.le_refl _) _)
    · rw [hwc, e2]; exact heap_alloc_new wb _
  have HWB := Lib.hid hwb
  have HWC := Lib.hid hwc
  have HBT := Lib.hid hbt
  have HBX := Lib.hid hbx
  have CG := Lib.hid (fun w' (hh : StrsIn w' ao len S) => get_c m a0 a1 a2 a3 x h ao len cap S w' hh)
  have CRG := Lib.hid (fun w' (hh : StrsIn w' ao len S) => rget_c m a0 a1 a2 a3 x h ao len cap S w' hh)
  have CS1 := Lib.hid (fun w' (hh : StrsIn w' ao len S) => set_c m a0 a1 a2 a3 x s h ao len cap S w' hh hs0)
  have CRS := Lib.hid (fun w' (hh : StrsIn w' ao len S) => rset_c m a0 a1 a2 a3 x s h ao len cap S w' hh hs0)
  have CF := Lib.hid (fun w' (hh : StrsIn w' ao len S) => frozen_c m a0 a1 a2 a3 h ao len cap S w' hh)
  have CRF := Lib.hid (fun w' (hh : StrsIn w' ao len S) => rfrozen_c m a0 a1 a2 a3 h ao len cap S w' hh)
  have CK := Lib.hid (fun w' (hh : StrsIn w' ao len S) => check_c m a0 a1 a2 a3 h ao len cap S w' hh)
  have CRK := Lib.hid (fun w' (hh : StrsIn w' ao len S) => rcheck_c m a0 a1 a2 a3 h ao len cap S w' hh)
  have CC := Lib.hid (fun w' (hh : StrsIn w' ao len S) => cut_c m a0 a1 a2 a3 x h ao len cap S w' hh)
  have CRC := Lib.hid (fun w' (hh : StrsIn w' ao len S) => rcut_c m a0 a1 a2 a3 x h ao len cap S w' hh)
  generalize setV m a0 x s (opV m a0 a1 a2 a3 h len S) = oS at CS1 CRS
  generalize cutV m a0 x (opV m a0 a1 a2 a3 h len S) = oC at CC CRC
  generalize getV m x (opV m a0 a1 a2 a3 h len S) = oG at CG CRG
  generalize opV m a0 a1 a2 a3 h len S = oP at CF CRF CK CRK
  obtain ⟨g1, g2⟩ := oG
  obtain ⟨E, F, l⟩ := oP
  clear hwb hwc hbt hbx hs H0 e2 hs0
  go_enter Try.func5, Try.ntmps5
  have c := A0.out.pb.cell
  have d := A0.out.ob.cell
  rw [HWC.out, HWB.out, HBT.out] at c
  rw [HWC.out, HWB.out, HBX.out] at d
  obtain ⟨c0, c1, c2, c3, c4, c5⟩ := c
  obtain ⟨d0, d1, d2⟩ := d
  go_wp2_with fail
  clear c0 c1 c2 c3 c4 c5 d0 d1 d2
  rw [← HWB.out, ← HWC.out, ← HBX.out, ← HBT.out]
  clear HWB HWC HBT HBX
  refine (CG.out wc A0.out.pb.it).mono ?_
  rintro e w1 ⟨rfl, hb⟩
  have A1 := Lib.hid (A0.out.below hb)
  clear hb A0 CG
  obtain ⟨c0, c1, c2, c3, c4, c5⟩ := A1.out.pb.cell
  obtain ⟨d0, d1, d2⟩ := A1.out.ob.cell
  go_wp2_with fail
  clear c0 c1 c2 c3 c4 c5 d0 d1 d2
  refine (CRG.out w1 A1.out.pb.it).mono ?_
  rintro e w2 ⟨rfl, hb⟩
  have A2 := Lib.hid (A1.out.below hb)
  clear hb A1 CRG
  obtain ⟨c0, c1, c2, c3, c4, c5⟩ := A2.out.pb.cell
  obtain ⟨d0, d1, d2⟩ := A2.out.ob.cell
  go_wp2_with fail
  clear c0 c1 c2 c3 c4 c5 d0 d1 d2
  refine (CS1.out w2 A2.out.pb.it).mono ?_
  rintro e w3 ⟨⟨ls1, k1, ao1, n1, S1, rfl, hs1, hp1⟩, hb⟩
  have A3 := Lib.hid (A2.out.below hb)
  have HS1 := Lib.hid hs1
  have HP1 := Lib.hid hp1
  have hip := pg_new w3
  clear hb A2 CS1 hs1 hp1
  go_wp2_with (refine wpList_st_page' rfl _ _ rfl w3.heap.size rfl _ _ _ _ _ _ rfl rfl hip (fun w4 hp4 hg4 => ?_); have A4 := Lib.hid (A3.out.below (new_below hg4)); have G4 : Hid (GP w4 w3.heap.size oS ls1 k1 ao1 n1 S1) := (by exact ⟨hp4, HS1.out.below (new_below hg4) rfl, HP1.out⟩); (obtain ⟨c0, c1, c2, c3, c4, c5⟩ := A4.out.pb.cell); (obtain ⟨d0, d1, d2⟩ := A4.out.ob.cell); clear hp4 hg4 A3 HS1 HP1)
  clear c0 c1 c2 c3 c4 c5 d0 d1 d2
  clear hip
  generalize w3.heap.size = b1 at *
  refine (CRS.out w4 A4.out.pb.it).mono ?_
  rintro e w5 ⟨⟨ls2, k2, ao2, n2, S2, rfl, hs2, hp2⟩, hb⟩
  have A5 := Lib.hid (A4.out.below hb)
  have G5 := Lib.hid (G4.out.below hb)
  have HS2 := Lib.hid hs2
  have HP2 := Lib.hid hp2
  have hip := pg_new w5
  clear hb A4 G4 CRS hs2 hp2
  go_wp2_with (refine wpList_st_page' rfl _ _ rfl w5.heap.size rfl _ _ _ _ _ _ rfl rfl hip (fun w6 hp6 hg6 => ?_); have A6 := Lib.hid (A5.out.below (new_below hg6)); have G6 := Lib.hid (G5.out.below (new_below hg6)); have K6 : Hid (GP w6 w5.heap.size oS ls2 k2 ao2 n2 S2) := (by exact ⟨hp6, HS2.out.below (new_below hg6) rfl, HP2.out⟩); (obtain ⟨c0, c1, c2, c3, c4, c5⟩ := A6.out.pb.cell); (obtain ⟨d0, d1, d2⟩ := A6.out.ob.cell); clear hp6 hg6 A5 G5 HS2 HP2)
  clear c0 c1 c2 c3 c4 c5 d0 d1 d2
  clear hip
  generalize w5.heap.size = b2 at *
  refine (CF.out w6 A6.out.pb.it).mono ?_
  rintro e w7 ⟨rfl, hb⟩
  have A7 := Lib.hid (A6.out.below hb)
  have G7 := Lib.hid (G6.out.below hb)
  have K7 := Lib.hid (K6.out.below hb)
  clear hb A6 G6 K6 CF
  obtain ⟨c0, c1, c2, c3, c4, c5⟩ := A7.out.pb.cell
  obtain ⟨d0, d1, d2⟩ := A7.out.ob.cell
  go_wp2_with fail
  clear c0 c1 c2 c3 c4 c5 d0 d1 d2
  refine (CRF.out w7 A7.out.pb.it).mono ?_
  rintro e w8 ⟨rfl, hb⟩
  have A8 := Lib.hid (A7.out.below hb)
  have G8 := Lib.hid (G7.out.below hb)
  have K8 := Lib.hid (K7.out.below hb)
  clear hb A7 G7 K7 CRF
  have z1 : (g1 != g1) = false := by simp
  have z2 : (g2 != g2) = false := by simp
  have z3 : (oS.1 != oS.1) = false := by simp
  have z4 : (F != F) = false := by simp
  have z5 : (E != E) = false := by simp
  have A8d : Hid (AS w w8.drew bt a0 a1 a2 a3 h ao len cap S bx cb x s ∧ GP w8.drew b1 oS ls1 k1 ao1 n1 S1 ∧ GP w8.drew b2 oS ls2 k2 ao2 n2 S2) := ⟨A8.out.below (by exact (Below.refl _ _).drew), G8.out.below (by exact (Below.refl _ _).drew), K8.out.below (by exact (Below.refl _ _).drew)⟩
  go_upto_region 7 with (fail)
  refine wp_region_q (fun wx => AS w wx bt a0 a1 a2 a3 h ao len cap S bx cb x s ∧ GP wx b1 oS ls1 k1 ao1 n1 S1 ∧ GP wx b2 oS ls2 k2 ao2 n2 S2) (by kernel_rfl) (by kernel_rfl) A8d.out ?_
  iterate 16 (refine q_take (v := ?_) (by kernel_rfl) (by intro w' hC; (try dsimp only at hC); obtain ⟨c0, c1, c2, c3, c4, c5⟩ := hC.1.pb.cell; obtain ⟨p0, p1, p2, p3, p4, p5⟩ := hC.2.1.pk.cell; obtain ⟨q0, q1, q2, q3, q4, q5⟩ := hC.2.2.pk.cell; go_simp; try (with_reducible rfl)) ?_; try simp only [Act.put, List.setIfInBounds_toArray, List.set_cons_zero, List.set_cons_succ])
  refine q_call (v := .bool true) (f := ?_) (args := ?_) (by kernel_rfl) (by intro w' hC; (try dsimp only at hC); go_simp; first | (constructor <;> with_reducible rfl) | (with_reducible rfl)) (by intro w' hC; (try dsimp only at hC); exact (gp_same hC.2.1 hC.2.2).mono (fun e wx ⟨h, hh⟩ => ⟨h, hC.1.below hh, hC.2.1.below hh, hC.2.2.below hh⟩)) ?_
  try simp only [Act.put, List.setIfInBounds_toArray, List.set_cons_zero, List.set_cons_succ]
  iterate 15 (refine q_take (v := ?_) (by kernel_rfl) (by intro w' hC; (try dsimp only at hC); obtain ⟨c0, c1, c2, c3, c4, c5⟩ := hC.1.pb.cell; obtain ⟨p0, p1, p2, p3, p4, p5⟩ := hC.2.1.pk.cell; obtain ⟨q0, q1, q2, q3, q4, q5⟩ := hC.2.2.pk.cell; go_simp; try (with_reducible rfl)) ?_; try simp only [Act.put, List.setIfInBounds_toArray, List.set_cons_zero, List.set_cons_succ])
  refine q_call (v := .int .i64 E) (f := ?_) (args := ?_) (by kernel_rfl) (by intro w' hC; (try dsimp only at hC); go_simp; first | (constructor <;> with_reducible rfl) | (with_reducible rfl)) (by intro w' hC; (try dsimp only at hC); exact (CK.out _ hC.1.pb.it).mono (fun e wx ⟨h, hh⟩ => ⟨h, hC.1.below hh, hC.2.1.below hh, hC.2.2.below hh⟩)) ?_
  try simp only [Act.put, List.setIfInBounds_toArray, List.set_cons_zero, List.set_cons_succ]
  iterate 2 (refine q_take (v := ?_) (by kernel_rfl) (by intro w' hC; (try dsimp only at hC); obtain ⟨c0, c1, c2, c3, c4, c5⟩ := hC.1.pb.cell; obtain ⟨p0, p1, p2, p3, p4, p5⟩ := hC.2.1.pk.cell; obtain ⟨q0, q1, q2, q3, q4, q5⟩ := hC.2.2.pk.cell; go_simp; try (with_reducible rfl)) ?_; try simp only [Act.put, List.setIfInBounds_toArray, List.set_cons_zero, List.set_cons_succ])
  refine q_call (v := .int .i64 E) (f := ?_) (args := ?_) (by kernel_rfl) (by intro w' hC; (try dsimp only at hC); go_simp; first | (constructor <;> with_reducible rfl) | (with_reducible rfl)) (by intro w' hC; (try dsimp only at hC); exact (CRK.out _ hC.1.pb.it).mono (fun e wx ⟨h, hh⟩ => ⟨h, hC.1.below hh, hC.2.1.below hh, hC.2.2.below hh⟩)) ?_
  try simp only [Act.put, List.setIfInBounds_toArray, List.set_cons_zero, List.set_cons_succ]
  iterate 2 (refine q_take (v := ?_) (by kernel_rfl) (by intro w' hC; (try dsimp only at hC); obtain ⟨c0, c1, c2, c3, c4, c5⟩ := hC.1.pb.cell; obtain ⟨p0, p1, p2, p3, p4, p5⟩ := hC.2.1.pk.cell; obtain ⟨q0, q1, q2, q3, q4, q5⟩ := hC.2.2.pk.cell; go_simp; try (with_reducible rfl)) ?_; try simp only [Act.put, List.setIfInBounds_toArray, List.set_cons_zero, List.set_cons_succ])
  refine q_done ?_
  intro w9 hC9
  have A9 := Lib.hid hC9.1
  clear hC9 A8d A8 G8 K8 CK CRK
  obtain ⟨c0, c1, c2, c3, c4, c5⟩ := A9.out.pb.cell
  obtain ⟨d0, d1, d2⟩ := A9.out.ob.cell
  go_wp2_with fail
  clear c0 c1 c2 c3 c4 c5 d0 d1 d2
  clear z1 z2 z3 z4 z5
  refine (CC.out w9 A9.out.pb.it).mono ?_
  rintro e w10 ⟨⟨ls3, k3, ao3, n3, S3, rfl, hs3, hp3⟩, hb⟩
  have A10 := Lib.hid (A9.out.below hb)
  have HS3 := Lib.hid hs3
  have HP3 := Lib.hid hp3
  have hip := pg_new w10
  clear hb A9 CC hs3 hp3
  go_wp2_with (refine wpList_st_page' rfl _ _ rfl w10.heap.size rfl _ _ _ _ _ _ rfl rfl hip (fun w11 hp11 hg11 => ?_); have A11 := Lib.hid (A10.out.below (new_below hg11)); have G11 : Hid (GP w11 w10.heap.size oC ls3 k3 ao3 n3 S3) := (by exact ⟨hp11, HS3.out.below (new_below hg11) rfl, HP3.out⟩); (obtain ⟨c0, c1, c2, c3, c4, c5⟩ := A11.out.pb.cell); (obtain ⟨d0, d1, d2⟩ := A11.out.ob.cell); clear hp11 hg11 A10 HS3 HP3)
  clear c0 c1 c2 c3 c4 c5 d0 d1 d2
  clear hip
  generalize w10.heap.size = b3 at *
  refine (CRC.out w11 A11.out.pb.it).mono ?_
  rintro e w12 ⟨⟨ls4, k4, ao4, n4, S4, rfl, hs4, hp4⟩, hb⟩
  have A12 := Lib.hid (A11.out.below hb)
  have G12 := Lib.hid (G11.out.below hb)
  have HS4 := Lib.hid hs4
  have HP4 := Lib.hid hp4
  have hip := pg_new w12
  have z1 : (oC.1 == oC.1) = true := by simp
  clear hb A11 G11 CRC hs4 hp4
  go_wp2_with (refine wpList_st_page' rfl _ _ rfl w12.heap.size rfl _ _ _ _ _ _ rfl rfl hip (fun w13 hp13 hg13 => ?_); have A13 := Lib.hid (A12.out.below (new_below hg13)); have G13 := Lib.hid (G12.out.below (new_below hg13)); have K13 : Hid (GP w13 w12.heap.size oC ls4 k4 ao4 n4 S4) := (by exact ⟨hp13, HS4.out.below (new_below hg13) rfl, HP4.out⟩); (obtain ⟨c0, c1, c2, c3, c4, c5⟩ := G13.out.pk.cell); (obtain ⟨d0, d1, d2, d3, d4, d5⟩ := K13.out.pk.cell); clear hp13 hg13 A12 G12 HS4 HP4)
  clear c0 c1 c2 c3 c4 c5 d0 d1 d2 d3 d4 d5 hip
  refine (gp_same G13.out K13.out).mono ?_
  rintro e w14 ⟨rfl, hb⟩
  have D14 := Lib.hid (A13.out.pb.bel.trans (hb.mono A13.out.pb.bel.size))
  clear hb A13 G13 K13
  go_wp2_with fail
  refine (awake_k _).mono ?_
  rintro e w15 ⟨rfl, hb⟩
  have D15 := Lib.hid (D14.out.trans (hb.mono D14.out.size))
  clear hb
  go_wp2_with fail
  go_ret
  exact ⟨rfl, D15.out⟩
end Go.Proofs.Ytpmhcpphbilokaa
