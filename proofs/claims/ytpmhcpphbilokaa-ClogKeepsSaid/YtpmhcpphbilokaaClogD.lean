/- Statuses: how a page is opened. -/
import Derived.Test.YtpmhcpphbilokaaClogC
import Derived.Test.YtpmhcpphbilokaaQuiet
import Derived.Deep.QuietTactic
namespace Go.Proofs.Ytpmhcpphbilokaa
open Go.RowKit
set_option linter.unusedSimpArgs false
set_option maxRecDepth 100000
attribute [local irreducible] wpQuiet

theorem empty_iff (k : ByteArray) : k.toList.isEmpty = decide (k.size = 0) := by
  rw [ByteArray.toList_eq]
  have h : k.data.toList.length = k.size := Array.length_toList
  cases hl : k.data.toList with
  | nil => rw [hl] at h; simp at h; simp [← h]
  | cons b l => rw [hl] at h; simp at h; simp [← h]

/-- A list of texts lies in memory. -/
def StrsIn (w : World) (ao : Option Addr) (len : Nat) (S : Nat → ByteArray) : Prop := ∀ i, i < len → ∃ b off, ao = some ⟨b, off, none⟩ ∧ w.cell? ⟨b, off + i, none⟩ = some (.string (S i)) ∧ (S i).size ≤ 9223372036854775807
theorem StrsIn.below {w w' : World} {ao : Option Addr} {len : Nat} {S : Nat → ByteArray} (h : StrsIn w ao len S) {B : Nat} (hb : Below B w w') (hB : B = w.heap.size) : StrsIn w' ao len S := fun i hi => by
  subst hB
  obtain ⟨b, off, e, hc, hs⟩ := h i hi
  exact ⟨b, off, e, bel_at hb hc, hs⟩
theorem itAt {w : World} {b off len : Nat} {S : Nat → ByteArray} (h : StrsIn w (some ⟨b, off, none⟩) len S) {i : Nat} (hi : i < len) : w.cell? ⟨b, off + i, none⟩ = some (.string (S i)) := by
  obtain ⟨b', off', e, hc, _⟩ := h i hi
  injection e with e; injection e with e1 e2
  subst e1; subst e2
  exact hc
theorem list_zero {s : ByteArray} (h : s.size = 0) : s.toList = [] := by
  have := empty_iff s
  rw [decide_eq_true h] at this
  exact List.isEmpty_iff.1 this
theorem list_ne {s : ByteArray} (h : s.size ≠ 0) : s.toList ≠ [] := by
  have := empty_iff s
  rw [decide_eq_false h] at this
  intro e
  rw [e] at this
  cases this


/-- A page, boxed. -/
structure PB (W wx : World) (bt : Nat) (a0 a1 a2 a3 : Int) (h : ByteArray) (ao : Option Addr) (len cap : Nat) (S : Nat → ByteArray) : Prop where
  tb : PK wx bt a0 a1 a2 a3 h (.slice ao len cap)
  it : StrsIn wx ao len S
  bel : Below W.heap.size W wx
theorem PB.cell {W wx : World} {bt : Nat} {a0 a1 a2 a3 : Int} {h : ByteArray} {ao : Option Addr} {len cap : Nat} {S : Nat → ByteArray} (H : PB W wx bt a0 a1 a2 a3 h ao len cap S) :
    wx.cell? ⟨bt, 0, none⟩ = some (.int .i64 a0) ∧ wx.cell? ⟨bt, 1, none⟩ = some (.int .i64 a1) ∧ wx.cell? ⟨bt, 2, none⟩ = some (.int .i64 a2) ∧ wx.cell? ⟨bt, 3, none⟩ = some (.int .i64 a3) ∧ wx.cell? ⟨bt, 4, none⟩ = some (.string h) ∧ wx.cell? ⟨bt, 5, none⟩ = some (.slice ao len cap) := H.tb.cell
theorem PB.below {W wx w' : World} {bt : Nat} {a0 a1 a2 a3 : Int} {h : ByteArray} {ao : Option Addr} {len cap : Nat} {S : Nat → ByteArray} (H : PB W wx bt a0 a1 a2 a3 h ao len cap S) (hb : Below wx.heap.size wx w') : PB W w' bt a0 a1 a2 a3 h ao len cap S :=
  ⟨H.tb.below hb, H.it.below hb rfl, H.bel.trans (hb.mono H.bel.size)⟩
theorem PB.new (w : World) (a0 a1 a2 a3 : Int) (h : ByteArray) (ao : Option Addr) (len cap : Nat) (S : Nat → ByteArray) (hs : StrsIn w ao len S) :
    PB w (w.alloc (.cells #[.int .i64 a0, .int .i64 a1, .int .i64 a2, .int .i64 a3, .string h, .slice ao len cap] 25)) w.heap.size a0 a1 a2 a3 h ao len cap S :=
  ⟨PK.new w _ _ _ _ _ _, hs.below ((Below.refl _ w).alloc (Nat.le_refl _) _) rfl, (Below.refl _ w).alloc (Nat.le_refl _) _⟩

/-- May a page be one of statuses? -/
def okpg (m a0 a1 a2 a3 : Int) (h : ByteArray) (len : Nat) (S : Nat → ByteArray) : Bool :=
  a1 == 1 && decide (0 ≤ a0) && a2 == 0 && a3 == 0 && decide (h.size = 0) && decide (len = 2) && decide ((S 1).size = sz m)
/-- No status behind the last id. -/
def tailok (m : Int) (l : List UInt8) : Bool := decide (m % 4 = 0) || decide ((l.getLastD 0).toNat / 4 ^ (m % 4).toNat = 0)
/-- A page that is opened: what is wrong, the limit, the statuses' bytes. -/
def opV (m a0 a1 a2 a3 : Int) (h : ByteArray) (len : Nat) (S : Nat → ByteArray) : Int × Int × List UInt8 :=
  if okm m = false then (1, 0, []) else if okpg m a0 a1 a2 a3 h len S = false then (31, 0, [])
  else if endV (numOut (S 0) m).2.1.size (numOut (S 0) m).2.2 = 0 ∧ (numOut (S 0) m).1 ≠ 0 ∧ tailok m (S 1).data.toList = true then (0, (numOut (S 0) m).1, (S 1).data.toList) else (31, 0, [])
/-- What 'open' gives. -/
def OpenP (w : World) (o : Int × Int × List UInt8) (e : Ending) (w' : World) : Prop :=
  (∃ v, e = .returned (.tuple #[.int .i64 o.2.1, v, .int .i64 o.1]) ∧ (o.1 = 0 → ∃ g cap, v = .slice (some ⟨g, 0, none⟩) o.2.2.length cap ∧ w.heap.size ≤ g ∧ BV w' g o.2.2)) ∧ Below w.heap.size w w'

set_option maxHeartbeats 1000000 in
theorem open_mod (m a0 a1 a2 a3 : Int) (h : ByteArray) (ao : Option Addr) (len cap : Nat) (S : Nat → ByteArray) (w : World) (hm : okm m = false) :
    Calls Try.prog 30 #[.int .i64 m, .agg #[.int .i64 a0, .int .i64 a1, .int .i64 a2, .int .i64 a3, .string h, .slice ao len cap]] w fun e w' => OpenP w (opV m a0 a1 a2 a3 h len S) e w' := by
  have HO : Hid (opV m a0 a1 a2 a3 h len S = (1, 0, [])) := by unfold Hid opV; rw [if_pos hm]
  go_enter Try.func30, Try.ntmps30
  go_wp2_with fail
  refine (isMod_c m _).mono ?_
  rintro e w1 ⟨rfl, hb⟩
  rw [hm]
  have HB := Lib.hid (((Below.refl _ w).alloc (Nat.le_refl _) _).trans (hb.mono (by simp)))
  go_wp2_with fail
  go_ret3
  rw [HO.out]
  exact ⟨⟨_, rfl, fun q => by cases q⟩, HB.out⟩

set_option maxHeartbeats 2000000 in
theorem open_bad (m a0 a1 a2 a3 : Int) (h : ByteArray) (ao : Option Addr) (len cap : Nat) (S : Nat → ByteArray) (w : World) (hm : okm m = true) (hs : StrsIn w ao len S) (hb : okpg m a0 a1 a2 a3 h len S = false) :
    Calls Try.prog 30 #[.int .i64 m, .agg #[.int .i64 a0, .int .i64 a1, .int .i64 a2, .int .i64 a3, .string h, .slice ao len cap]] w fun e w' => OpenP w (opV m a0 a1 a2 a3 h len S) e w' := by
  have HO : Hid (opV m a0 a1 a2 a3 h len S = (31, 0, [])) := by unfold Hid opV; rw [if_neg (by rw [hm]; simp), if_pos hb]
  have HBAD := Lib.hid hb
  have CZ := Lib.hid (fun w' => size_c m w' hm)
  obtain ⟨wb, hwb⟩ : ∃ wb, wb = w.alloc (.cells #[.int .i64 a0, .int .i64 a1, .int .i64 a2, .int .i64 a3, .string h, .slice ao len cap] 25) := ⟨_, rfl⟩
  obtain ⟨bt, hbt⟩ : ∃ bt, bt = w.heap.size := ⟨_, rfl⟩
  have H0 : Hid (PB w wb bt a0 a1 a2 a3 h ao len cap S) := by rw [hwb, hbt]; exact PB.new w a0 a1 a2 a3 h ao len cap S hs
  have HWB := Lib.hid hwb
  have HBT := Lib.hid hbt
  have HM := Lib.hid hm
  clear hwb hbt hs hb hm
  go_enter Try.func30, Try.ntmps30
  go_wp2_with fail
  rw [← HWB.out, ← HBT.out]
  clear HWB HBT
  refine (isMod_c m _).mono ?_
  rintro e w1 ⟨rfl, hb⟩
  rw [HM.out]
  have H1 := Lib.hid (H0.out.below hb)
  clear hb H0
  obtain ⟨c0, c1, c2, c3, c4, c5⟩ := H1.out.cell
  by_cases q1 : a1 = 1
  rotate_left
  · have t1 : (a1 == 1) = false := by rw [beq_eq_false_iff_ne]; exact q1
    go_upto_region 3 with (fail)
    go_quiet (first | (go_at_call 27; refine (CZ.out _).mono ?_; rintro e wz ⟨rfl, rfl⟩; exact ⟨rfl, _, rfl⟩))
    go_wp2_with fail
    go_ret3
    rw [HO.out]
    exact ⟨⟨_, rfl, fun q => by cases q⟩, H1.out.bel.trans ((below_drewN _ _).mono H1.out.bel.size)⟩
  have t1 : (a1 == 1) = true := by rw [beq_iff_eq]; exact q1
  by_cases q2 : 0 ≤ a0
  rotate_left
  · have t2 : decide (a0 < 0) = true := by exact decide_eq_true (by omega)
    go_upto_region 3 with (fail)
    go_quiet (first | (go_at_call 27; refine (CZ.out _).mono ?_; rintro e wz ⟨rfl, rfl⟩; exact ⟨rfl, _, rfl⟩))
    go_wp2_with fail
    go_ret3
    rw [HO.out]
    exact ⟨⟨_, rfl, fun q => by cases q⟩, H1.out.bel.trans ((below_drewN _ _).mono H1.out.bel.size)⟩
  have t2 : decide (a0 < 0) = false := by exact decide_eq_false (by omega)
  by_cases q3 : a2 = 0
  rotate_left
  · have t3 : (a2 == 0) = false := by rw [beq_eq_false_iff_ne]; exact q3
    go_upto_region 3 with (fail)
    go_quiet (first | (go_at_call 27; refine (CZ.out _).mono ?_; rintro e wz ⟨rfl, rfl⟩; exact ⟨rfl, _, rfl⟩))
    go_wp2_with fail
    go_ret3
    rw [HO.out]
    exact ⟨⟨_, rfl, fun q => by cases q⟩, H1.out.bel.trans ((below_drewN _ _).mono H1.out.bel.size)⟩
  have t3 : (a2 == 0) = true := by rw [beq_iff_eq]; exact q3
  by_cases q4 : a3 = 0
  rotate_left
  · have t4 : (a3 == 0) = false := by rw [beq_eq_false_iff_ne]; exact q4
    go_upto_region 3 with (fail)
    go_quiet (first | (go_at_call 27; refine (CZ.out _).mono ?_; rintro e wz ⟨rfl, rfl⟩; exact ⟨rfl, _, rfl⟩))
    go_wp2_with fail
    go_ret3
    rw [HO.out]
    exact ⟨⟨_, rfl, fun q => by cases q⟩, H1.out.bel.trans ((below_drewN _ _).mono H1.out.bel.size)⟩
  have t4 : (a3 == 0) = true := by rw [beq_iff_eq]; exact q4
  by_cases q5 : h.size = 0
  rotate_left
  · have t5 : h.toList.isEmpty = false := by rw [empty_iff]; exact decide_eq_false q5
    go_upto_region 3 with (fail)
    go_quiet (first | (go_at_call 27; refine (CZ.out _).mono ?_; rintro e wz ⟨rfl, rfl⟩; exact ⟨rfl, _, rfl⟩))
    go_wp2_with fail
    go_ret3
    rw [HO.out]
    exact ⟨⟨_, rfl, fun q => by cases q⟩, H1.out.bel.trans ((below_drewN _ _).mono H1.out.bel.size)⟩
  have t5 : h.toList.isEmpty = true := by rw [empty_iff]; exact decide_eq_true q5
  by_cases q6 : len = 2
  rotate_left
  · have t6 : ((len : Int) != 2) = true := by rw [bne_iff_ne]; omega
    go_upto_region 3 with (fail)
    go_quiet (first | (go_at_call 27; refine (CZ.out _).mono ?_; rintro e wz ⟨rfl, rfl⟩; exact ⟨rfl, _, rfl⟩))
    go_wp2_with fail
    go_ret3
    rw [HO.out]
    exact ⟨⟨_, rfl, fun q => by cases q⟩, H1.out.bel.trans ((below_drewN _ _).mono H1.out.bel.size)⟩
  have t6 : ((len : Int) != 2) = false := by rw [bne_eq_false_iff_eq]; omega
  by_cases q7 : (S 1).size = sz m
  rotate_left
  · have t7 : (((S 1).size : Int) != (sz m : Int)) = true := by rw [bne_iff_ne]; omega
    obtain ⟨b, off, rfl, hc1, _⟩ := H1.out.it 1 (by omega)
    go_upto_region 3 with (fail)
    go_quiet (first | (go_at_call 27; refine (CZ.out _).mono ?_; rintro e wz ⟨rfl, rfl⟩; exact ⟨rfl, _, rfl⟩))
    go_wp2_with fail
    go_ret3
    rw [HO.out]
    exact ⟨⟨_, rfl, fun q => by cases q⟩, H1.out.bel.trans ((below_drewN _ _).mono H1.out.bel.size)⟩
  have t7 : (((S 1).size : Int) != (sz m : Int)) = false := by rw [bne_eq_false_iff_eq]; omega
  exfalso
  have e := HBAD.out
  simp [okpg, q1, q2, q3, q4, q5, q6, q7] at e
end Go.Proofs.Ytpmhcpphbilokaa
