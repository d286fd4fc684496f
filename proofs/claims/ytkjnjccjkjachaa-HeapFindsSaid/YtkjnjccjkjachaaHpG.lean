/- heap.at, heap.Look: the version in a slot. -/
import Derived.Test.YtkjnjccjkjachaaHpE
import Derived.Test.YtkjnjccjkjachaaTupG
namespace Go.Proofs.Ytkjnjccjkjachaa
open Go.RowKit
set_option linter.unusedSimpArgs false
set_option linter.unusedVariables false
set_option maxRecDepth 100000

/-- A page in its box, and a block for the result; a list of texts lay there before. -/
structure X2 (W wx : World) (bt br : Nat) (a0 a1 a2 a3 : Int) (h : ByteArray) (v : Value) (ao : Option Addr) (len : Nat) (S : Nat → ByteArray) (rc : Array Value) (rt : TypeId) : Prop where
  tb : wx.heap[bt]? = some (.cells #[.int .i64 a0, .int .i64 a1, .int .i64 a2, .int .i64 a3, .string h, v] 24 (0, 0))
  pr : wx.heap[br]? = some (.cells rc rt (0, 0))
  i0 : StrsIn W ao len S
  bel : Below W.heap.size W wx
  lt : W.heap.size ≤ bt
  ne : bt < br
theorem X2.it {W wx : World} {bt br : Nat} {a0 a1 a2 a3 : Int} {h : ByteArray} {v : Value} {ao : Option Addr} {len : Nat} {S : Nat → ByteArray} {rc : Array Value} {rt : TypeId} (H : X2 W wx bt br a0 a1 a2 a3 h v ao len S rc rt) : StrsIn wx ao len S := H.i0.below H.bel rfl
theorem X2.le {W wx : World} {bt br : Nat} {a0 a1 a2 a3 : Int} {h : ByteArray} {v : Value} {ao : Option Addr} {len : Nat} {S : Nat → ByteArray} {rc : Array Value} {rt : TypeId} (H : X2 W wx bt br a0 a1 a2 a3 h v ao len S rc rt) : W.heap.size ≤ br := by have := H.lt; have := H.ne; omega
theorem X2.below {W wx w' : World} {bt br : Nat} {a0 a1 a2 a3 : Int} {h : ByteArray} {v : Value} {ao : Option Addr} {len : Nat} {S : Nat → ByteArray} {rc : Array Value} {rt : TypeId} (H : X2 W wx bt br a0 a1 a2 a3 h v ao len S rc rt) (hb : Below wx.heap.size wx w') : X2 W w' bt br a0 a1 a2 a3 h v ao len S rc rt :=
  ⟨(hb.block bt (row_lt H.tb)).trans H.tb, (hb.block br (row_lt H.pr)).trans H.pr, H.i0, H.bel.trans (hb.mono H.bel.size), H.lt, H.ne⟩
theorem X2.cell {W wx : World} {bt br : Nat} {a0 a1 a2 a3 : Int} {h : ByteArray} {v : Value} {ao : Option Addr} {len : Nat} {S : Nat → ByteArray} {rc : Array Value} {rt : TypeId} (H : X2 W wx bt br a0 a1 a2 a3 h v ao len S rc rt) :
    wx.cell? ⟨bt, 0, none⟩ = some (.int .i64 a0) ∧ wx.cell? ⟨bt, 1, none⟩ = some (.int .i64 a1) ∧ wx.cell? ⟨bt, 2, none⟩ = some (.int .i64 a2) ∧ wx.cell? ⟨bt, 3, none⟩ = some (.int .i64 a3) ∧ wx.cell? ⟨bt, 4, none⟩ = some (.string h) ∧ wx.cell? ⟨bt, 5, none⟩ = some v := pk_cells H.tb
theorem X2.new (w : World) (a0 a1 a2 a3 : Int) (h : ByteArray) (v : Value) (ao : Option Addr) (len : Nat) (S : Nat → ByteArray) (rc : Array Value) (rt : TypeId) (hs : StrsIn w ao len S) :
    ∃ wc bt br, wc = (w.alloc (.cells #[.int .i64 a0, .int .i64 a1, .int .i64 a2, .int .i64 a3, .string h, v] 24)).alloc (.cells rc rt) ∧ bt = w.heap.size ∧ br = w.heap.size + 1 ∧ X2 w wc bt br a0 a1 a2 a3 h v ao len S rc rt := by
  have q1 : Below w.heap.size w (w.alloc (.cells #[.int .i64 a0, .int .i64 a1, .int .i64 a2, .int .i64 a3, .string h, v] 24)) := (Below.refl _ w).alloc (Nat.le_refl _) _
  have q2 := (Below.refl _ (w.alloc (.cells #[.int .i64 a0, .int .i64 a1, .int .i64 a2, .int .i64 a3, .string h, v] 24))).alloc (Nat.le_refl _) (.cells rc rt)
  have q3 := heap_alloc_new w (.cells #[.int .i64 a0, .int .i64 a1, .int .i64 a2, .int .i64 a3, .string h, v] 24)
  have e : w.heap.size + 1 = (w.alloc (.cells #[.int .i64 a0, .int .i64 a1, .int .i64 a2, .int .i64 a3, .string h, v] 24)).heap.size := by simp
  refine ⟨_, _, _, rfl, rfl, rfl, (q2.block _ (row_lt q3)).trans q3, ?_, hs, q1.trans (q2.mono q1.size), Nat.le_refl _, by omega⟩
  rw [e]
  exact heap_alloc_new _ _

/-- A version, or none. -/
def atRes : Option (Int × Int × Bool × ByteArray × ByteArray) → Value
  | some (x, y, f, k, v) => .tuple #[.agg #[.int .i64 x, .int .i64 y, .bool f, .string k, .string v], .bool true]
  | none => .tuple #[.agg #[.int .i64 0, .int .i64 0, .bool false, .string ⟨#[]⟩, .string ⟨#[]⟩], .bool false]
/-- The version in a slot. -/
def atV (a1 : Int) (S : Nat → ByteArray) (len : Nat) (slot : Int) : Option (Int × Int × Bool × ByteArray × ByteArray) :=
  if a1 = 2 ∧ 0 ≤ slot ∧ slot < len then decV (S slot.toNat) else none

set_option maxHeartbeats 4000000 in
theorem at_no (a0 a1 a2 a3 : Int) (h : ByteArray) (ao : Option Addr) (len cap : Nat) (S : Nat → ByteArray) (slot : Int) (w : World) (hs : StrsIn w ao len S) (hn : ¬ (a1 = 2 ∧ 0 ≤ slot ∧ slot < len)) :
    Calls Try.prog 29 #[.agg #[.int .i64 a0, .int .i64 a1, .int .i64 a2, .int .i64 a3, .string h, .slice ao len cap], .int .i64 slot] w fun e w' => e = .returned (atRes none) ∧ Below w.heap.size w w' := by
  obtain ⟨wc, bt, br, hwc, hbt, hbr, h1⟩ := X2.new w a0 a1 a2 a3 h (.slice ao len cap) ao len S #[.int .i64 0, .int .i64 0, .bool false, .string ⟨#[]⟩, .string ⟨#[]⟩] 26 hs
  have H1 := Lib.hid h1
  have HWC := Lib.hid hwc
  have HBT := Lib.hid hbt
  have HBR := Lib.hid hbr
  clear hwc hbt hbr h1 hs
  go_enter Try.func29, Try.ntmps29
  have c := H1.out.cell
  rw [HWC.out, HBT.out] at c
  obtain ⟨c0, c1, c2, c3, c4, c5⟩ := c
  go_upto_region 1 with (fail)
  rw [← HWC.out, ← HBR.out, ← HBT.out]
  rw [← HWC.out, ← HBT.out] at c0 c1 c2 c3 c4 c5
  clear HWC HBT HBR
  have hr := H1.out.pr
  by_cases h1 : a1 = 2
  · subst h1
    by_cases h2 : slot < 0
    · go_wp2_with (refine wpList_st_row rfl 26 _ _ rfl br rfl _ rfl hr (by kernel_rfl) rfl (by simp [Value.oneCell']) (fun w5 hp5 hg5 => ?_); have P5 := Lib.hid hp5; have B5 := Lib.hid (below_own H1.out.bel H1.out.le hg5); clear hp5 hg5)
      refine ret_cell rfl br _ _ _ _ rfl P5.out Try.underlying26 rfl (by kernel_rfl) rfl ?_
      exact ⟨rfl, B5.out⟩
    · have h3 : (len : Int) ≤ slot := by omega
      go_wp2_with (refine wpList_st_row rfl 26 _ _ rfl br rfl _ rfl hr (by kernel_rfl) rfl (by simp [Value.oneCell']) (fun w5 hp5 hg5 => ?_); have P5 := Lib.hid hp5; have B5 := Lib.hid (below_own H1.out.bel H1.out.le hg5); clear hp5 hg5)
      refine ret_cell rfl br _ _ _ _ rfl P5.out Try.underlying26 rfl (by kernel_rfl) rfl ?_
      exact ⟨rfl, B5.out⟩
  · go_wp2_with (refine wpList_st_row rfl 26 _ _ rfl br rfl _ rfl hr (by kernel_rfl) rfl (by simp [Value.oneCell']) (fun w5 hp5 hg5 => ?_); have P5 := Lib.hid hp5; have B5 := Lib.hid (below_own H1.out.bel H1.out.le hg5); clear hp5 hg5)
    refine ret_cell rfl br _ _ _ _ rfl P5.out Try.underlying26 rfl (by kernel_rfl) rfl ?_
    exact ⟨rfl, B5.out⟩

set_option maxHeartbeats 4000000 in
theorem at_yes (a0 a2 a3 : Int) (h : ByteArray) (ao : Option Addr) (len cap n : Nat) (S : Nat → ByteArray) (w : World) (hlen : len ≤ 9223372036854775807) (hs : StrsIn w ao len S) (hn : n < len) :
    Calls Try.prog 29 #[.agg #[.int .i64 a0, .int .i64 2, .int .i64 a2, .int .i64 a3, .string h, .slice ao len cap], .int .i64 n] w fun e w' => e = .returned (atRes (decV (S n))) ∧ Below w.heap.size w w' := by
  obtain ⟨wc, bt, br, hwc, hbt, hbr, h1⟩ := X2.new w a0 2 a2 a3 h (.slice ao len cap) ao len S #[.int .i64 0, .int .i64 0, .bool false, .string ⟨#[]⟩, .string ⟨#[]⟩] 26 hs
  obtain ⟨b, off, rfl, _, hsz⟩ := hs n hn
  have H1 := Lib.hid h1
  have HWC := Lib.hid hwc
  have HBT := Lib.hid hbt
  have HBR := Lib.hid hbr
  have hcn := itAt h1.it hn
  have F := Lib.hid (fun w' => dec_c (S n) w' hsz)
  generalize decV (S n) = D at *
  clear hwc hbt hbr h1 hs hsz
  generalize S n = s at *
  go_enter Try.func29, Try.ntmps29
  have c := H1.out.cell
  rw [HWC.out, HBT.out] at c
  obtain ⟨c0, c1, c2, c3, c4, c5⟩ := c
  go_upto_region 1 with (fail)
  rw [← HWC.out, ← HBR.out, ← HBT.out]
  rw [← HWC.out, ← HBT.out] at c0 c1 c2 c3 c4 c5
  clear HWC HBT HBR
  go_wp2_with fail
  clear c0 c1 c2 c3 c4 c5 hcn
  refine (F.out wc).mono ?_
  rintro e w3 ⟨rfl, hb3⟩
  have H3 := Lib.hid (H1.out.below hb3)
  clear hb3 H1 F
  have hnew : (w3.alloc (.cells #[.int .i64 0, .int .i64 0, .bool false, .string ⟨#[]⟩, .string ⟨#[]⟩] 26)).heap[w3.heap.size]? = some (.cells #[.int .i64 0, .int .i64 0, .bool false, .string ⟨#[]⟩, .string ⟨#[]⟩] 26 (0, 0)) := heap_alloc_new w3 _
  cases D with
  | none =>
    unfold decRes
    go_wp2_with (first
      | (refine wpList_st_row rfl 26 _ _ rfl w3.heap.size rfl _ rfl hnew (by kernel_rfl) rfl (by simp [Value.oneCell']) (fun w5 hp5 hg5 => ?_); have hb5 : Below w3.heap.size w3 w5 := (by exact below_own (W := w3) ((Below.refl _ w3).alloc (Nat.le_refl _) _) (Nat.le_refl _) hg5); have H5 := Lib.hid (H3.out.below hb5); have hr5 := H5.out.pr; (obtain ⟨m0, m1, m2, m3, m4⟩ := TB.cell hp5); clear hb5 hp5 hg5)
      | (refine wpList_st_row rfl 26 _ _ rfl br rfl _ rfl hr5 (by kernel_rfl) rfl (by simp [Value.oneCell']) (fun w6 hp6 hg6 => ?_); have P6 := Lib.hid hp6; have B6 := Lib.hid (below_own H5.out.bel H5.out.le hg6); clear hp6 hg6))
    refine ret_cell rfl br _ _ _ _ rfl P6.out Try.underlying26 rfl (by kernel_rfl) rfl ?_
    exact ⟨rfl, B6.out⟩
  | some q =>
    obtain ⟨x, y, f, k, v⟩ := q
    unfold decRes
    go_wp2_with (first
      | (refine wpList_st_row rfl 26 _ _ rfl w3.heap.size rfl _ rfl hnew (by kernel_rfl) rfl (by simp [Value.oneCell']) (fun w5 hp5 hg5 => ?_); have hb5 : Below w3.heap.size w3 w5 := (by exact below_own (W := w3) ((Below.refl _ w3).alloc (Nat.le_refl _) _) (Nat.le_refl _) hg5); have H5 := Lib.hid (H3.out.below hb5); have hr5 := H5.out.pr; (obtain ⟨m0, m1, m2, m3, m4⟩ := TB.cell hp5); clear hb5 hp5 hg5)
      | (refine wpList_st_row rfl 26 _ _ rfl br rfl _ rfl hr5 (by kernel_rfl) rfl (by simp [Value.oneCell']) (fun w6 hp6 hg6 => ?_); have P6 := Lib.hid hp6; have B6 := Lib.hid (below_own H5.out.bel H5.out.le hg6); clear hp6 hg6))
    refine ret_cell rfl br _ _ _ _ rfl P6.out Try.underlying26 rfl (by kernel_rfl) rfl ?_
    exact ⟨rfl, B6.out⟩

theorem at_c (a0 a1 a2 a3 : Int) (h : ByteArray) (ao : Option Addr) (len cap : Nat) (S : Nat → ByteArray) (slot : Int) (w : World) (hlen : len ≤ 9223372036854775807) (hs : StrsIn w ao len S) :
    Calls Try.prog 29 #[.agg #[.int .i64 a0, .int .i64 a1, .int .i64 a2, .int .i64 a3, .string h, .slice ao len cap], .int .i64 slot] w fun e w' => e = .returned (atRes (atV a1 S len slot)) ∧ Below w.heap.size w w' := by
  unfold atV
  by_cases hh : a1 = 2 ∧ 0 ≤ slot ∧ slot < len
  · rw [if_pos hh]
    obtain ⟨rfl, h0, h1⟩ := hh
    have q := at_yes a0 a2 a3 h ao len cap slot.toNat S w hlen hs (by omega)
    rw [show ((slot.toNat : Nat) : Int) = slot by omega] at q
    exact q
  · rw [if_neg hh]
    exact at_no a0 a1 a2 a3 h ao len cap S slot w hs hh

theorem lne_of {k x : ByteArray} (h : k ≠ x) : ¬ k.toList = x.toList := fun e => h (ByteArray.ext (by
  have := e
  rw [ByteArray.toList_eq, ByteArray.toList_eq] at this
  exact Array.ext' this))
/-- The version of a key among one. -/
def lookD (D : Option (Int × Int × Bool × ByteArray × ByteArray)) (key : ByteArray) : Option (Int × Int × Bool × ByteArray × ByteArray) :=
  match D with
  | some (x, y, f, k, v) => if k = key then some (x, y, f, k, v) else none
  | none => none

set_option maxHeartbeats 4000000 in
theorem look_c (a0 a1 a2 a3 : Int) (h : ByteArray) (ao : Option Addr) (len cap : Nat) (S : Nat → ByteArray) (slot : Int) (key : ByteArray) (w : World) (hlen : len ≤ 9223372036854775807) (hs : StrsIn w ao len S) :
    Calls Try.prog 11 #[.agg #[.int .i64 a0, .int .i64 a1, .int .i64 a2, .int .i64 a3, .string h, .slice ao len cap], .int .i64 slot, .string key] w fun e w' => e = .returned (atRes (lookD (atV a1 S len slot) key)) ∧ Below w.heap.size w w' := by
  have F := Lib.hid (fun w' hh => at_c a0 a1 a2 a3 h ao len cap S slot w' hlen hh)
  generalize atV a1 S len slot = D at *
  obtain ⟨wc, bt, br, hwc, hbt, hbr, h1⟩ := X2.new w a0 a1 a2 a3 h (.slice ao len cap) ao len S #[.int .i64 0, .int .i64 0, .bool false, .string ⟨#[]⟩, .string ⟨#[]⟩] 26 hs
  have H1 := Lib.hid h1
  have HWC := Lib.hid hwc
  have HBT := Lib.hid hbt
  have HBR := Lib.hid hbr
  clear hwc hbt hbr h1 hs
  obtain ⟨R, hR⟩ : ∃ R, R = lookD D key := ⟨_, rfl⟩
  rw [← hR]
  have HR := Lib.hid hR
  clear hR
  go_enter Try.func11, Try.ntmps11
  have c := H1.out.cell
  rw [HWC.out, HBT.out] at c
  obtain ⟨c0, c1, c2, c3, c4, c5⟩ := c
  go_wp2_with fail
  clear c0 c1 c2 c3 c4 c5
  rw [← HWC.out, ← HBR.out, ← HBT.out]
  clear HWC HBT HBR
  refine (F.out wc H1.out.it).mono ?_
  rintro e w3 ⟨rfl, hb3⟩
  have H3 := Lib.hid (H1.out.below hb3)
  clear hb3 H1 F
  have hnew : (w3.alloc (.cells #[.int .i64 0, .int .i64 0, .bool false, .string ⟨#[]⟩, .string ⟨#[]⟩] 26)).heap[w3.heap.size]? = some (.cells #[.int .i64 0, .int .i64 0, .bool false, .string ⟨#[]⟩, .string ⟨#[]⟩] 26 (0, 0)) := heap_alloc_new w3 _
  cases D with
  | none =>
    obtain rfl : R = none := HR.out
    unfold atRes
    go_wp2_with (first
      | (refine wpList_st_row rfl 26 _ _ rfl w3.heap.size rfl _ rfl hnew (by kernel_rfl) rfl (by simp [Value.oneCell']) (fun w5 hp5 hg5 => ?_); have hb5 : Below w3.heap.size w3 w5 := (by exact below_own (W := w3) ((Below.refl _ w3).alloc (Nat.le_refl _) _) (Nat.le_refl _) hg5); have H5 := Lib.hid (H3.out.below hb5); have hr5 := H5.out.pr; (obtain ⟨m0, m1, m2, m3, m4⟩ := TB.cell hp5); clear hb5 hp5 hg5)
      | (refine wpList_st_row rfl 26 _ _ rfl br rfl _ rfl hr5 (by kernel_rfl) rfl (by simp [Value.oneCell']) (fun w6 hp6 hg6 => ?_); have P6 := Lib.hid hp6; have B6 := Lib.hid (below_own H5.out.bel H5.out.le hg6); clear hp6 hg6))
    refine ret_cell rfl br _ _ _ _ rfl P6.out Try.underlying26 rfl (by kernel_rfl) rfl ?_
    exact ⟨rfl, B6.out⟩
  | some q =>
    obtain ⟨x, y, f, k, v⟩ := q
    by_cases hk : k = key
    · obtain rfl : R = some (x, y, f, k, v) := by rw [HR.out]; unfold lookD; exact if_pos hk
      subst hk
      clear HR
      unfold atRes
      go_wp2_with (first
        | (refine wpList_st_row rfl 26 _ _ rfl w3.heap.size rfl _ rfl hnew (by kernel_rfl) rfl (by simp [Value.oneCell']) (fun w5 hp5 hg5 => ?_); have hb5 : Below w3.heap.size w3 w5 := (by exact below_own (W := w3) ((Below.refl _ w3).alloc (Nat.le_refl _) _) (Nat.le_refl _) hg5); have H5 := Lib.hid (H3.out.below hb5); have hr5 := H5.out.pr; (obtain ⟨m0, m1, m2, m3, m4⟩ := TB.cell hp5); clear hb5 hp5 hg5)
        | (refine wpList_st_row rfl 26 _ _ rfl br rfl _ rfl hr5 (by kernel_rfl) rfl (by simp [Value.oneCell']) (fun w6 hp6 hg6 => ?_); have P6 := Lib.hid hp6; have B6 := Lib.hid (below_own H5.out.bel H5.out.le hg6); clear hp6 hg6))
      refine ret_cell rfl br _ _ _ _ rfl P6.out Try.underlying26 rfl (by kernel_rfl) rfl ?_
      exact ⟨rfl, B6.out⟩
    · obtain rfl : R = none := by rw [HR.out]; unfold lookD; exact if_neg hk
      clear HR
      have hb : (k.toList == key.toList) = false := beq_eq_false_iff_ne.2 (lne_of hk)
      unfold atRes
      go_wp2_with (first
        | (refine wpList_st_row rfl 26 _ _ rfl w3.heap.size rfl _ rfl hnew (by kernel_rfl) rfl (by simp [Value.oneCell']) (fun w5 hp5 hg5 => ?_); have hb5 : Below w3.heap.size w3 w5 := (by exact below_own (W := w3) ((Below.refl _ w3).alloc (Nat.le_refl _) _) (Nat.le_refl _) hg5); have H5 := Lib.hid (H3.out.below hb5); have hr5 := H5.out.pr; (obtain ⟨m0, m1, m2, m3, m4⟩ := TB.cell hp5); clear hb5 hp5 hg5)
        | (refine wpList_st_row rfl 26 _ _ rfl br rfl _ rfl hr5 (by kernel_rfl) rfl (by simp [Value.oneCell']) (fun w6 hp6 hg6 => ?_); have P6 := Lib.hid hp6; have B6 := Lib.hid (below_own H5.out.bel H5.out.le hg6); clear hp6 hg6))
      refine ret_cell rfl br _ _ _ _ rfl P6.out Try.underlying26 rfl (by kernel_rfl) rfl ?_
      exact ⟨rfl, B6.out⟩
end Go.Proofs.Ytkjnjccjkjachaa
