/- The reference's Key and State; the walk of TupleReads. -/
import Derived.Test.YtioinjnignajnaaTupK0
import Derived.Test.YtioinjnignajnaaQuiet
namespace Go.Proofs.Ytioinjnignajnaa
open Go.RowKit
set_option linter.unusedSimpArgs false
attribute [local irreducible] wpQuiet

set_option maxRecDepth 100000 in
set_option maxHeartbeats 1000000 in
theorem rstate_c (s : ByteArray) (w : World) (hs : s.size ≤ 9223372036854775000) :
    Calls Try.prog 21 #[.string s] w fun e w' => e = .returned (.int .u8 (stV s)) ∧ Below w.heap.size w w' := by
  have hke := empty_iff s
  have CD := Lib.hid (fun w => rdec_c s w hs)
  have CB := Lib.hid (fun w => rbur_c s w hs)
  have HS : Hid (stV s = if s.size = 0 then 1 else if (decV s).isSome = true then 3 else if (burV s).isSome = true then 2 else 0) := rfl
  have HZ : Hid (s.size = 0 → decV s = none ∧ burV s = none) := fun h => ⟨dec_empty h, bur_empty h⟩
  generalize decV s = o at *
  generalize burV s = p at *
  cases o with
  | some t =>
    have hz : s.size ≠ 0 := fun h => by have := (HZ.out h).1; cases this
    have HS2 : Hid (stV s = 3) := by unfold Hid; rw [HS.out, if_neg hz]; rfl
    obtain ⟨x, y, f, k, v⟩ := t
    clear HS HZ hz hke hs
    go_enter Try.func21, Try.ntmps21
    go_wp2_with fail
    refine (CD.out _).mono ?_
    rintro e w2 ⟨rfl, hb2⟩
    have HB2 := Lib.hid (hb2.trans ((Below.refl _ w2).alloc hb2.size (.cells #[.int .i64 x, .int .i64 y, .bool f, .string k, .string v] 23)))
    clear hb2
    simp only [decRes]
    go_wp2_with fail
    refine (CB.out _).mono ?_
    rintro e w3 ⟨⟨K, rfl, _⟩, hb3⟩
    have HB3 := Lib.hid (HB2.out.trans (hb3.mono HB2.out.size))
    clear hb3
    go_wp2_with fail
    go_ret
    rw [HS2.out]
    exact ⟨rfl, HB3.out⟩
  | none =>
    cases p with
    | some k0 =>
      have hz : s.size ≠ 0 := fun h => by have := (HZ.out h).2; cases this
      have HS2 : Hid (stV s = 2) := by unfold Hid; rw [HS.out, if_neg hz]; rfl
      clear HS HZ hz hke hs
      go_enter Try.func21, Try.ntmps21
      go_wp2_with fail
      refine (CD.out _).mono ?_
      rintro e w2 ⟨rfl, hb2⟩
      have HB2 := Lib.hid (hb2.trans ((Below.refl _ w2).alloc hb2.size (.cells #[.int .i64 0, .int .i64 0, .bool false, .string ⟨#[]⟩, .string ⟨#[]⟩] 23)))
      clear hb2
      simp only [decRes]
      go_wp2_with fail
      refine (CB.out _).mono ?_
      rintro e w3 ⟨⟨K, rfl, _⟩, hb3⟩
      have HB3 := Lib.hid (HB2.out.trans (hb3.mono HB2.out.size))
      clear hb3
      go_wp2_with fail
      go_ret
      rw [HS2.out]
      exact ⟨rfl, HB3.out⟩
    | none =>
      by_cases hz : s.size = 0
      · have HS2 : Hid (stV s = 1) := by unfold Hid; rw [HS.out, if_pos hz]
        rw [decide_eq_true hz] at hke
        clear HS HZ hz hs
        go_enter Try.func21, Try.ntmps21
        go_wp2_with fail
        refine (CD.out _).mono ?_
        rintro e w2 ⟨rfl, hb2⟩
        have HB2 := Lib.hid (hb2.trans ((Below.refl _ w2).alloc hb2.size (.cells #[.int .i64 0, .int .i64 0, .bool false, .string ⟨#[]⟩, .string ⟨#[]⟩] 23)))
        clear hb2
        simp only [decRes]
        go_wp2_with fail
        refine (CB.out _).mono ?_
        rintro e w3 ⟨⟨K, rfl, _⟩, hb3⟩
        have HB3 := Lib.hid (HB2.out.trans (hb3.mono HB2.out.size))
        clear hb3
        go_wp2_with fail
        go_ret
        rw [HS2.out]
        exact ⟨rfl, HB3.out⟩
      · have HS2 : Hid (stV s = 0) := by unfold Hid; rw [HS.out, if_neg hz]; rfl
        rw [decide_eq_false hz] at hke
        clear HS HZ hz hs
        go_enter Try.func21, Try.ntmps21
        go_wp2_with fail
        refine (CD.out _).mono ?_
        rintro e w2 ⟨rfl, hb2⟩
        have HB2 := Lib.hid (hb2.trans ((Below.refl _ w2).alloc hb2.size (.cells #[.int .i64 0, .int .i64 0, .bool false, .string ⟨#[]⟩, .string ⟨#[]⟩] 23)))
        clear hb2
        simp only [decRes]
        go_wp2_with fail
        refine (CB.out _).mono ?_
        rintro e w3 ⟨⟨K, rfl, _⟩, hb3⟩
        have HB3 := Lib.hid (HB2.out.trans (hb3.mono HB2.out.size))
        clear hb3
        go_wp2_with fail
        go_ret
        rw [HS2.out]
        exact ⟨rfl, HB3.out⟩

set_option maxRecDepth 100000 in
set_option maxHeartbeats 1000000 in
theorem rkey_c (s : ByteArray) (w : World) (hs : s.size ≤ 9223372036854775000) :
    Calls Try.prog 20 #[.string s] w fun e w' => e = .returned (burRes (keyV s)) ∧ Below w.heap.size w w' := by
  have CD := Lib.hid (fun w => rdec_c s w hs)
  have CB := Lib.hid (fun w => rbur_c s w hs)
  have HK : Hid (keyV s = match decV s with | some (_, _, _, k, _) => some k | none => burV s) := rfl
  clear hs
  generalize decV s = o at *
  generalize burV s = p at *
  cases o with
  | some t =>
    obtain ⟨x, y, f, k, v⟩ := t
    go_enter Try.func20, Try.ntmps20
    go_wp2_with fail
    refine (CD.out _).mono ?_
    rintro e w2 ⟨rfl, hb2⟩
    have HB2 := Lib.hid (hb2.trans ((Below.refl _ w2).alloc hb2.size (.cells #[.int .i64 x, .int .i64 y, .bool f, .string k, .string v] 23)))
    clear hb2
    simp only [decRes]
    go_wp2_with fail
    go_ret2
    rw [HK.out]
    exact ⟨rfl, HB2.out⟩
  | none =>
    cases p with
    | some k0 =>
      go_enter Try.func20, Try.ntmps20
      go_wp2_with fail
      refine (CD.out _).mono ?_
      rintro e w2 ⟨rfl, hb2⟩
      have HB2 := Lib.hid (hb2.trans ((Below.refl _ w2).alloc hb2.size (.cells #[.int .i64 0, .int .i64 0, .bool false, .string ⟨#[]⟩, .string ⟨#[]⟩] 23)))
      clear hb2
      simp only [decRes]
      go_wp2_with fail
      refine (CB.out _).mono ?_
      rintro e w3 ⟨⟨K, rfl, hK⟩, hb3⟩
      have HKK := Lib.hid (hK k0 rfl)
      have HB3 := Lib.hid (HB2.out.trans (hb3.mono HB2.out.size))
      clear hb3 hK
      go_wp2_with fail
      go_ret2
      rw [HK.out, ← HKK.out]
      exact ⟨rfl, HB3.out⟩
    | none =>
      go_enter Try.func20, Try.ntmps20
      go_wp2_with fail
      refine (CD.out _).mono ?_
      rintro e w2 ⟨rfl, hb2⟩
      have HB2 := Lib.hid (hb2.trans ((Below.refl _ w2).alloc hb2.size (.cells #[.int .i64 0, .int .i64 0, .bool false, .string ⟨#[]⟩, .string ⟨#[]⟩] 23)))
      clear hb2
      simp only [decRes]
      go_wp2_with fail
      refine (CB.out _).mono ?_
      rintro e w3 ⟨⟨K, rfl, _⟩, hb3⟩
      have HB3 := Lib.hid (HB2.out.trans (hb3.mono HB2.out.size))
      clear hb3
      go_wp2_with fail
      go_ret2
      rw [HK.out]
      exact ⟨rfl, HB3.out⟩

theorem dec_form (o : Option (Int × Int × Bool × ByteArray × ByteArray)) : ∃ (x y : Int) (f : Bool) (k v : ByteArray) (e : Int), decRes o = .tuple #[.agg #[.int .i64 x, .int .i64 y, .bool f, .string k, .string v], .int .i64 e] := by
  cases o with
  | some t => obtain ⟨x, y, f, k, v⟩ := t; exact ⟨x, y, f, k, v, 0, rfl⟩
  | none => exact ⟨0, 0, false, ⟨#[]⟩, ⟨#[]⟩, 110, rfl⟩
theorem bur_form (o : Option ByteArray) : ∃ (k : ByteArray) (b : Bool), burRes o = .tuple #[.string k, .bool b] := by
  cases o with
  | some k => exact ⟨k, true, rfl⟩
  | none => exact ⟨⟨#[]⟩, false, rfl⟩
/-- What lies while all is compared. -/
structure RdC (W wx : World) (bt b5 b7 : Nat) (a0 a1 a2 a3 : Int) (h : ByteArray) (ao : Option Addr) (len cap : Nat) (S : Nat → ByteArray) (x y : Int) (f : Bool) (k v : ByteArray) : Prop where
  pb : PB W wx bt a0 a1 a2 a3 h ao len cap S
  t5 : TB wx b5 x y f k v
  t7 : TB wx b7 x y f k v
theorem RdC.below {W wx w' : World} {bt b5 b7 : Nat} {a0 a1 a2 a3 : Int} {h : ByteArray} {ao : Option Addr} {len cap : Nat} {S : Nat → ByteArray} {x y : Int} {f : Bool} {k v : ByteArray} (H : RdC W wx bt b5 b7 a0 a1 a2 a3 h ao len cap S x y f k v) (hb : Below wx.heap.size wx w') : RdC W w' bt b5 b7 a0 a1 a2 a3 h ao len cap S x y f k v :=
  ⟨H.pb.below hb, H.t5.below hb, H.t7.below hb⟩

set_option maxRecDepth 100000 in
set_option maxHeartbeats 4000000 in
theorem tupleReads_w (s : ByteArray) (a0 a1 a2 a3 : Int) (h : ByteArray) (ao : Option Addr) (len cap : Nat) (S : Nat → ByteArray) (w : World) (hs : s.size ≤ 9223372036854775000) (hlen : len ≤ 9223372036854775807) (hit : StrsIn w ao len S) :
    Calls Try.prog 8 #[.string s, .agg #[.int .i64 a0, .int .i64 a1, .int .i64 a2, .int .i64 a3, .string h, .slice ao len cap]] w fun e w' => e = .returned (.bool true) ∧ Below w.heap.size w w' := by
  obtain ⟨n, hn⟩ := fst_ex S len
  have CD := Lib.hid (fun w => dec_c s w (by omega))
  have CR := Lib.hid (fun w => rdec_c s w hs)
  have CK := Lib.hid (fun w => key_c s w (by omega))
  have CQ := Lib.hid (fun w => rkey_c s w hs)
  have CS := Lib.hid (fun w => state_c s w (by omega))
  have CT := Lib.hid (fun w => rstate_c s w hs)
  have CL := Lib.hid (fun w' hh => slot_c a0 a1 a2 a3 h ao len cap n S w' hlen hh hn)
  have CM := Lib.hid (fun w' hh => rslot_c a0 a1 a2 a3 h ao len cap n S w' hlen hh hn)
  obtain ⟨x, y, f, k, v, E, hD⟩ := dec_form (decV s)
  obtain ⟨K2, B2, hK⟩ := bur_form (keyV s)
  rw [hD] at CD CR
  rw [hK] at CK CQ
  generalize stV s = q at CS CT
  clear hD hK hs hn
  obtain ⟨wb, hwb⟩ : ∃ wb, wb = w.alloc (.cells #[.int .i64 a0, .int .i64 a1, .int .i64 a2, .int .i64 a3, .string h, .slice ao len cap] 41) := ⟨_, rfl⟩
  obtain ⟨bt, hbt⟩ : ∃ bt, bt = w.heap.size := ⟨_, rfl⟩
  have H0 : Hid (PB w wb bt a0 a1 a2 a3 h ao len cap S) := by rw [hwb, hbt]; exact PB.new w a0 a1 a2 a3 h ao len cap S hit
  have HWB := Lib.hid hwb
  have HBT := Lib.hid hbt
  clear hwb hbt hit
  go_enter Try.func8, Try.ntmps8
  go_wp2_with fail
  rw [← HWB.out, ← HBT.out]
  clear HWB HBT
  refine (CD.out _).mono ?_
  rintro e w1 ⟨rfl, hb⟩
  have H1 : Hid (PB w (w1.alloc (.cells #[.int .i64 x, .int .i64 y, .bool f, .string k, .string v] 23)) bt a0 a1 a2 a3 h ao len cap S ∧ TB (w1.alloc (.cells #[.int .i64 x, .int .i64 y, .bool f, .string k, .string v] 23)) w1.heap.size x y f k v) :=
    ⟨(H0.out.below hb).below ((Below.refl _ w1).alloc (Nat.le_refl _) _), TB.new w1 x y f k v⟩
  clear hb H0 CD
  go_wp2_with fail
  generalize w1.alloc (.cells #[.int .i64 x, .int .i64 y, .bool f, .string k, .string v] 23) = w2 at H1 ⊢
  obtain ⟨b5, hb5⟩ : ∃ b5, b5 = w1.heap.size := ⟨_, rfl⟩
  rw [← hb5] at H1 ⊢
  clear hb5
  refine (CR.out _).mono ?_
  rintro e w3 ⟨rfl, hb⟩
  have H3 : Hid (RdC w (w3.alloc (.cells #[.int .i64 x, .int .i64 y, .bool f, .string k, .string v] 23)) bt b5 w3.heap.size a0 a1 a2 a3 h ao len cap S x y f k v) := by
    have hz : Below w3.heap.size w3 (w3.alloc (.cells #[.int .i64 x, .int .i64 y, .bool f, .string k, .string v] 23)) := (Below.refl _ w3).alloc (Nat.le_refl _) _
    exact ⟨(H1.out.1.below hb).below hz, (H1.out.2.below hb).below hz, TB.new w3 x y f k v⟩
  clear hb H1 CR
  go_wp2_with fail
  generalize w3.alloc (.cells #[.int .i64 x, .int .i64 y, .bool f, .string k, .string v] 23) = w4 at H3 ⊢
  obtain ⟨b7, hb7⟩ : ∃ b7, b7 = w3.heap.size := ⟨_, rfl⟩
  rw [← hb7] at H3 ⊢
  clear hb7
  refine (CK.out _).mono ?_
  rintro e w5 ⟨rfl, hb⟩
  have H5 := Lib.hid (H3.out.below hb)
  clear hb H3 CK
  go_wp2_with fail
  refine (CQ.out _).mono ?_
  rintro e w6 ⟨rfl, hb⟩
  have H6 := Lib.hid (H5.out.below hb)
  clear hb H5 CQ
  go_upto_region 5 with (fail)
  refine wp_region_q (fun wx => RdC w wx bt b5 b7 a0 a1 a2 a3 h ao len cap S x y f k v) (by kernel_rfl) (by kernel_rfl) (H6.out.below (by exact (Below.refl _ _).drew)) ?_
  iterate 20 (refine q_take (v := ?_) (by kernel_rfl) (by intro w' hC; (try dsimp only at hC); obtain ⟨t0, t1, t2, t3, t4⟩ := hC.t5.cell; obtain ⟨u0, u1, u2, u3, u4⟩ := hC.t7.cell; obtain ⟨p0, p1, p2, p3, p4, p5⟩ := hC.pb.cell; go_simp; try (with_reducible rfl)) ?_; try simp only [Act.put, List.setIfInBounds_toArray, List.set_cons_zero, List.set_cons_succ])
  refine q_call (v := .int .u8 q) (f := ?_) (args := ?_) (by kernel_rfl) (by intro w' hC; (try dsimp only at hC); go_simp; first | (constructor <;> with_reducible rfl) | (with_reducible rfl)) (by intro w' hC; (try dsimp only at hC); exact (CS.out w').mono (fun e wx ⟨h, hh⟩ => ⟨h, hC.below hh⟩)) ?_
  try simp only [Act.put, List.setIfInBounds_toArray, List.set_cons_zero, List.set_cons_succ]
  iterate 1 (refine q_take (v := ?_) (by kernel_rfl) (by intro w' hC; (try dsimp only at hC); obtain ⟨t0, t1, t2, t3, t4⟩ := hC.t5.cell; obtain ⟨u0, u1, u2, u3, u4⟩ := hC.t7.cell; obtain ⟨p0, p1, p2, p3, p4, p5⟩ := hC.pb.cell; go_simp; try (with_reducible rfl)) ?_; try simp only [Act.put, List.setIfInBounds_toArray, List.set_cons_zero, List.set_cons_succ])
  refine q_call (v := .int .u8 q) (f := ?_) (args := ?_) (by kernel_rfl) (by intro w' hC; (try dsimp only at hC); go_simp; first | (constructor <;> with_reducible rfl) | (with_reducible rfl)) (by intro w' hC; (try dsimp only at hC); exact (CT.out w').mono (fun e wx ⟨h, hh⟩ => ⟨h, hC.below hh⟩)) ?_
  try simp only [Act.put, List.setIfInBounds_toArray, List.set_cons_zero, List.set_cons_succ]
  iterate 4 (refine q_take (v := ?_) (by kernel_rfl) (by intro w' hC; (try dsimp only at hC); obtain ⟨t0, t1, t2, t3, t4⟩ := hC.t5.cell; obtain ⟨u0, u1, u2, u3, u4⟩ := hC.t7.cell; obtain ⟨p0, p1, p2, p3, p4, p5⟩ := hC.pb.cell; go_simp; try (with_reducible rfl)) ?_; try simp only [Act.put, List.setIfInBounds_toArray, List.set_cons_zero, List.set_cons_succ])
  refine q_call (v := .int .i64 n) (f := ?_) (args := ?_) (by kernel_rfl) (by intro w' hC; (try dsimp only at hC); go_simp; first | (constructor <;> with_reducible rfl) | (with_reducible rfl)) (by intro w' hC; (try dsimp only at hC); exact (CL.out w' hC.pb.it).mono (fun e wx ⟨h, hh⟩ => ⟨h, hC.below hh⟩)) ?_
  try simp only [Act.put, List.setIfInBounds_toArray, List.set_cons_zero, List.set_cons_succ]
  iterate 1 (refine q_take (v := ?_) (by kernel_rfl) (by intro w' hC; (try dsimp only at hC); obtain ⟨t0, t1, t2, t3, t4⟩ := hC.t5.cell; obtain ⟨u0, u1, u2, u3, u4⟩ := hC.t7.cell; obtain ⟨p0, p1, p2, p3, p4, p5⟩ := hC.pb.cell; go_simp; try (with_reducible rfl)) ?_; try simp only [Act.put, List.setIfInBounds_toArray, List.set_cons_zero, List.set_cons_succ])
  refine q_call (v := .int .i64 n) (f := ?_) (args := ?_) (by kernel_rfl) (by intro w' hC; (try dsimp only at hC); go_simp; first | (constructor <;> with_reducible rfl) | (with_reducible rfl)) (by intro w' hC; (try dsimp only at hC); exact (CM.out w' hC.pb.it).mono (fun e wx ⟨h, hh⟩ => ⟨h, hC.below hh⟩)) ?_
  try simp only [Act.put, List.setIfInBounds_toArray, List.set_cons_zero, List.set_cons_succ]
  iterate 3 (refine q_take (v := ?_) (by kernel_rfl) (by intro w' hC; (try dsimp only at hC); obtain ⟨t0, t1, t2, t3, t4⟩ := hC.t5.cell; obtain ⟨u0, u1, u2, u3, u4⟩ := hC.t7.cell; obtain ⟨p0, p1, p2, p3, p4, p5⟩ := hC.pb.cell; go_simp; try (with_reducible rfl)) ?_; try simp only [Act.put, List.setIfInBounds_toArray, List.set_cons_zero, List.set_cons_succ])
  refine q_call (v := .bool true) (f := ?_) (args := ?_) (by kernel_rfl) (by intro w' hC; (try dsimp only at hC); go_simp; first | (constructor <;> with_reducible rfl) | (with_reducible rfl)) (by intro w' hC; (try dsimp only at hC); exact (awake_c w').mono (fun e wx ⟨h, hh⟩ => ⟨h, hC.below hh⟩)) ?_
  try simp only [Act.put, List.setIfInBounds_toArray, List.set_cons_zero, List.set_cons_succ]
  iterate 2 (refine q_take (v := ?_) (by kernel_rfl) (by intro w' hC; (try dsimp only at hC); obtain ⟨t0, t1, t2, t3, t4⟩ := hC.t5.cell; obtain ⟨u0, u1, u2, u3, u4⟩ := hC.t7.cell; obtain ⟨p0, p1, p2, p3, p4, p5⟩ := hC.pb.cell; go_simp; try (with_reducible rfl)) ?_; try simp only [Act.put, List.setIfInBounds_toArray, List.set_cons_zero, List.set_cons_succ])
  refine q_done ?_
  intro w9 hC9
  have H9 := Lib.hid hC9.pb.bel
  clear hC9
  go_wp2_with fail
  go_ret
  exact ⟨rfl, H9.out⟩
end Go.Proofs.Ytioinjnignajnaa
