/- Checks: a control block is laid. -/
import Derived.Test.YtbhiijjnobcmoaaCkB
import Derived.Test.YtbhiijjnobcmoaaShelfK
import Derived.Test.YtbhiijjnobcmoaaBitsG
namespace Go.Proofs.Ytbhiijjnobcmoaa
open Go.RowKit
set_option linter.unusedSimpArgs false
set_option maxRecDepth 100000

theorem lays166 : Go.Proofs.Lays.n166 Try.prog Try.lays105_ren :=
  { mixed := Try.lays105.mixed, f166 := Try.lays105.f166, f240 := Try.lays105.f240, f276 := Try.lays105.f276,
    t0 := Try.lays105.t0, a0 := Try.lays105.a0, z0 := Try.lays105.z0, v0 := Try.lays105.v0,
    t3 := Try.lays105.t3, a3 := Try.lays105.a3, z3 := Try.lays105.z3, v3 := Try.lays105.v3,
    t4 := Try.lays105.t4, a4 := Try.lays105.a4, z4 := Try.lays105.z4, v4 := Try.lays105.v4,
    t9 := Try.lays105.t9, a9 := Try.lays105.a9, z9 := Try.lays105.z9, v9 := Try.lays105.v9,
    t20 := Try.lays105.t20, a20 := Try.lays105.a20, z20 := Try.lays105.z20, v20 := Try.lays105.v20,
    t37 := Try.lays105.t37, a37 := Try.lays105.a37, z37 := Try.lays105.z37, v37 := Try.lays105.v37,
    t70 := Try.lays105.t70, a70 := Try.lays105.a70, z70 := Try.lays105.z70, v70 := Try.lays105.v70,
    t72 := Try.lays105.t72, a72 := Try.lays105.a72, z72 := Try.lays105.z72, v72 := Try.lays105.v72,
    t75 := Try.lays105.t75, a75 := Try.lays105.a75, z75 := Try.lays105.z75, v75 := Try.lays105.v75,
    t164 := Try.lays105.t164, a164 := Try.lays105.a164, z164 := Try.lays105.z164, v164 := Try.lays105.v164 }
theorem write_c (B b : Nat) (bs : List Value) (s : ByteArray) (w : World) (h : Lib.IsBuilderF 48 5 B b bs w) (hlen : bs.length + s.size ≤ 140737488355328) (hBw : B ≤ w.heap.size) :
    Calls Try.prog 21 #[.pointer (some ⟨b, 0, none⟩), .string s] w fun e w' => e = .returned (.tuple #[.int .i64 s.size, .nilIface]) ∧ (Lib.BuilderAtF 48 5 B b (.pointer (some ⟨b, 0, none⟩)) (bs ++ Lib.strCells s) w' ∧ Below B w w') :=
  Any.Builder_WriteString_f lays166 Try.Builder_Extra_105 B b bs s w h hlen hBw
theorem isb_below {T e : TypeId} {B b : Nat} {bs : List Value} {w w' : World} (h : Lib.IsBuilderF T e B b bs w) (hb : Below w.heap.size w w') : Lib.IsBuilderF T e B b bs w' := by
  rcases h with h | h
  · have hl := h.lt
    obtain ⟨hB, v, hbk, ho, hne⟩ := h
    exact .inl ⟨hB, v, (hb.block b hl).trans hbk, ho.kept (grown_of hb) (by cases v.ownBlock <;> simp), hne⟩
  · have hl := h.lt
    obtain ⟨hB, v, hbk, ho, hne⟩ := h
    exact .inr ⟨hB, v, (hb.block b hl).trans hbk, ho.kept (grown_of hb) (by cases v.ownBlock <;> simp), hne⟩

/-- A control block's numbers in memory. -/
def CT (w : World) (bt : Nat) (a b c d n s k : Int) : Prop := w.heap[bt]? = some (.cells #[.int .i64 a, .int .i64 b, .int .i64 c, .int .i64 d, .int .i64 n, .int .i64 s, .int .i64 k] 25 (0, 0))
theorem CT.cell {w : World} {bt : Nat} {a b c d n s k : Int} (H : CT w bt a b c d n s k) :
    w.cell? ⟨bt, 0, none⟩ = some (.int .i64 a) ∧ w.cell? ⟨bt, 1, none⟩ = some (.int .i64 b) ∧ w.cell? ⟨bt, 2, none⟩ = some (.int .i64 c) ∧ w.cell? ⟨bt, 3, none⟩ = some (.int .i64 d) ∧ w.cell? ⟨bt, 4, none⟩ = some (.int .i64 n) ∧ w.cell? ⟨bt, 5, none⟩ = some (.int .i64 s) ∧ w.cell? ⟨bt, 6, none⟩ = some (.int .i64 k) := by
  unfold CT at H
  refine ⟨?_, ?_, ?_, ?_, ?_, ?_, ?_⟩ <;> (simp only [World.cell?, H]; rfl)
theorem CT.lt {w : World} {bt : Nat} {a b c d n s k : Int} (H : CT w bt a b c d n s k) : bt < w.heap.size := row_lt H
theorem CT.below {w w' : World} {bt : Nat} {a b c d n s k : Int} (H : CT w bt a b c d n s k) (hb : Below w.heap.size w w') : CT w' bt a b c d n s k := (hb.block bt H.lt).trans H

/-- While a control block is being laid. -/
structure EN (W wx : World) (bt bb : Nat) (a b c d n s k : Int) (l : List UInt8) : Prop where
  ct : CT wx bt a b c d n s k
  ib : Lib.IsBuilderF 48 5 bb bb (Lib.byteCells l) wx
  bel : Below W.heap.size W wx
  n0 : bt < bb
  n2 : W.heap.size ≤ bb
  sz : bb ≤ wx.heap.size
theorem EN.below {W wx w' : World} {bt bb : Nat} {a b c d n s k : Int} {l : List UInt8} (H : EN W wx bt bb a b c d n s k l) (hb : Below wx.heap.size wx w') : EN W w' bt bb a b c d n s k l :=
  ⟨H.ct.below hb, isb_below H.ib hb, H.bel.trans (hb.mono H.bel.size), H.n0, H.n2, Nat.le_trans H.sz hb.size⟩
theorem EN.write {W wx w' : World} {bt bb : Nat} {a b c d n s k : Int} {l l' : List UInt8} (H : EN W wx bt bb a b c d n s k l) (hb : Below bb wx w') (hi : Lib.IsBuilderF 48 5 bb bb (Lib.byteCells l') w') : EN W w' bt bb a b c d n s k l' :=
  ⟨(hb.block bt H.n0).trans H.ct, hi, H.bel.trans (hb.mono H.n2), H.n0, H.n2, Nat.le_trans H.sz hb.size⟩
theorem EN.add {W wx w' : World} {bt bb : Nat} {a b c d n s k : Int} {l r : List UInt8} (H : EN W wx bt bb a b c d n s k l) (hb : Below bb wx w') (hi : Lib.BuilderAtF 48 5 bb bb (.pointer (some ⟨bb, 0, none⟩)) (Lib.byteCells l ++ Lib.strCells ⟨r.toArray⟩) w') : EN W w' bt bb a b c d n s k (l ++ r) := by
  refine H.write hb (.inr ?_)
  have e : Lib.byteCells (l ++ r) = Lib.byteCells l ++ Lib.strCells ⟨r.toArray⟩ := by simp [Lib.byteCells, Lib.strCells]
  rw [e]; exact hi
/-- A number's bytes. -/
def bg (x : Int) (k : Nat) : List UInt8 := bigL x.toNat k
theorem bg_len (x : Int) (k : Nat) : (bg x k).length = k := by simp [bg, bigL]
theorem bs_size (l : List UInt8) : (⟨l.toArray⟩ : ByteArray).size = l.length := by show l.toArray.size = l.length; simp
theorem bg_sz (x : Int) (k : Nat) : (⟨(bg x k).toArray⟩ : ByteArray).size = k := by show (bg x k).toArray.size = k; simp [bg_len]
theorem big_i (x : Int) (k : Nat) (w : World) (h0 : 0 ≤ x) (hx : x ≤ 9223372036854775807) (h1 : 1 ≤ k) (h8 : k ≤ 8) :
    Calls Try.prog 22 #[.int .i64 x, .int .i64 k] w fun e w' => e = .returned (.string ⟨(bg x k).toArray⟩) ∧ Below w.heap.size w w' := by
  obtain ⟨m, rfl⟩ : ∃ m : Nat, x = (m : Int) := ⟨x.toNat, by omega⟩
  have := big_yes m k w (by omega) h1 h8
  unfold bg
  simpa using this
theorem big_4 (x : Int) (w : World) (h0 : 0 ≤ x) (hx : x ≤ 9223372036854775807) : Calls Try.prog 22 #[.int .i64 x, .int .i64 4] w fun e w' => e = .returned (.string ⟨(bg x 4).toArray⟩) ∧ Below w.heap.size w w' := big_i x 4 w h0 hx (by omega) (by omega)
theorem big_6 (x : Int) (w : World) (h0 : 0 ≤ x) (hx : x ≤ 9223372036854775807) : Calls Try.prog 22 #[.int .i64 x, .int .i64 6] w fun e w' => e = .returned (.string ⟨(bg x 6).toArray⟩) ∧ Below w.heap.size w w' := big_i x 6 w h0 hx (by omega) (by omega)
theorem rep_28 (w : World) : Calls Try.prog 23 #[.string ⟨#[0]⟩, .int .i64 28] w fun e w' => e = .returned (.string ⟨(List.replicate 28 (0 : UInt8)).toArray⟩) ∧ Below w.heap.size w w' := Try.strings_Repeat ⟨#[0]⟩ 28 w (by omega) (by decide)

/-- May a control block be? -/
def okCtl (a b c d n s k : Int) : Bool := okCfg a b c d && inB n 1 4294967295 && inB s 1 281474976710655 && inB k 0 281474976710655
theorem okCtl_bd {a b c d n s k : Int} (h : okCtl a b c d n s k = true) : okCfg a b c d = true ∧ (1 ≤ n ∧ n ≤ 4294967295) ∧ (1 ≤ s ∧ s ≤ 281474976710655) ∧ (0 ≤ k ∧ k ≤ 281474976710655) := by
  unfold okCtl inB at h
  simp only [Bool.and_eq_true, decide_eq_true_eq] at h
  exact ⟨h.1.1.1, h.1.1.2, h.1.2, h.2⟩
/-- A control block's bytes. -/
def encL (a b c d n s k : Int) : List UInt8 := bg n 4 ++ bg a 4 ++ bg b 4 ++ bg c 4 ++ bg d 4 ++ bg s 6 ++ bg k 6 ++ List.replicate 28 (0 : UInt8) ++ bg n 4
/-- Encode's answer. -/
def encV (a b c d n s k : Int) : Value := if okCtl a b c d n s k = true then .tuple #[.string ⟨(encL a b c d n s k).toArray⟩, .int .i64 0] else .tuple #[.string ⟨#[]⟩, .int .i64 1]
theorem encV_yes {a b c d n s k : Int} (h : okCtl a b c d n s k = true) : encV a b c d n s k = .tuple #[.string ⟨(encL a b c d n s k).toArray⟩, .int .i64 0] := by unfold encV; rw [if_pos h]
theorem encV_no {a b c d n s k : Int} (h : okCtl a b c d n s k = false) : encV a b c d n s k = .tuple #[.string ⟨#[]⟩, .int .i64 1] := by unfold encV; rw [h]; rfl

set_option maxHeartbeats 8000000 in
theorem encode_c (a b c d n s k : Int) (w : World) :
    Calls Try.prog 7 #[.agg #[.int .i64 a, .int .i64 b, .int .i64 c, .int .i64 d, .int .i64 n, .int .i64 s, .int .i64 k]] w fun e w' => e = .returned (encV a b c d n s k) ∧ Below w.heap.size w w' := by
  obtain ⟨wb, hwb⟩ : ∃ wb, wb = w.alloc (.cells #[.int .i64 a, .int .i64 b, .int .i64 c, .int .i64 d, .int .i64 n, .int .i64 s, .int .i64 k] 25) := ⟨_, rfl⟩
  obtain ⟨bt, hbt⟩ : ∃ bt, bt = w.heap.size := ⟨_, rfl⟩
  have HB : Hid (Below w.heap.size w wb) := by unfold Hid; rw [hwb]; exact (Below.refl _ w).alloc (Nat.le_refl _) _
  have HC : Hid (CT wb bt a b c d n s k) := by unfold Hid CT; rw [hwb, hbt]; exact heap_alloc_new w _
  have HN : Hid (w.heap.size ≤ bt) := by unfold Hid; omega
  have HWB := Lib.hid hwb
  have HBT := Lib.hid hbt
  clear hwb hbt
  go_enter Try.func7, Try.ntmps7
  have cc := HC.out.cell
  rw [HWB.out, HBT.out] at cc
  obtain ⟨c0, c1, c2, c3, c4, c5, c6⟩ := cc
  go_wp2_with fail
  clear c0 c1 c2 c3 c4 c5 c6
  rw [← HWB.out, ← HBT.out]
  clear HWB HBT
  refine (sound_c a b c d wb).mono ?_
  rintro e w1 ⟨rfl, hb1⟩
  have B1 := Lib.hid (HB.out.trans (hb1.mono HB.out.size))
  have C1 := Lib.hid (HC.out.below hb1)
  clear hb1 HB HC
  have cc := C1.out.cell
  obtain ⟨c0, c1, c2, c3, c4, c5, c6⟩ := cc
  obtain ⟨v1, h1⟩ : ∃ v1, v1 = okCfg a b c d := ⟨_, rfl⟩
  obtain ⟨v2, h2⟩ : ∃ v2, v2 = inB n 1 4294967295 := ⟨_, rfl⟩
  obtain ⟨v3, h3⟩ : ∃ v3, v3 = inB s 1 281474976710655 := ⟨_, rfl⟩
  obtain ⟨v4, h4⟩ : ∃ v4, v4 = inB k 0 281474976710655 := ⟨_, rfl⟩
  have HR : Hid (okCtl a b c d n s k = (v1 && v2 && v3 && v4)) := by unfold Hid okCtl; rw [h1, h2, h3, h4]
  have H2 := Lib.hid h2
  have H3 := Lib.hid h3
  have H4 := Lib.hid h4
  rw [← h1]
  clear h1 h2 h3 h4
  cases v1
  · go_wp2_with fail
    go_ret2
    exact ⟨congrArg Ending.returned (encV_no (by rw [HR.out]; rfl)).symm, B1.out⟩
  go_wp2_with fail
  refine (in_c n 1 4294967295 _).mono ?_
  rintro e w2 ⟨rfl, rfl⟩
  rw [← H2.out]
  cases v2
  · go_wp2_with fail
    go_ret2
    exact ⟨congrArg Ending.returned (encV_no (by rw [HR.out]; rfl)).symm, B1.out⟩
  go_wp2_with fail
  refine (in_c s 1 281474976710655 _).mono ?_
  rintro e w3 ⟨rfl, rfl⟩
  rw [← H3.out]
  cases v3
  · go_wp2_with fail
    go_ret2
    exact ⟨congrArg Ending.returned (encV_no (by rw [HR.out]; rfl)).symm, B1.out⟩
  go_wp2_with fail
  refine (in_c k 0 281474976710655 _).mono ?_
  rintro e w4 ⟨rfl, rfl⟩
  rw [← H4.out]
  cases v4
  · go_wp2_with fail
    go_ret2
    exact ⟨congrArg Ending.returned (encV_no (by rw [HR.out]; rfl)).symm, B1.out⟩
  clear H2 H3 H4
  have HOK : Hid (okCtl a b c d n s k = true) := by unfold Hid; rw [HR.out]; rfl
  clear HR
  have HBD := Lib.hid (okCtl_bd HOK.out)
  have HBE := Lib.hid (okCfg_bd HBD.out.1)
  have HE0 : Hid (EN w (w1.alloc (.cells #[.pointer none, .slice none 0 0] 48)) bt w1.heap.size a b c d n s k []) := by
    have ha : Below w1.heap.size w1 (w1.alloc (.cells #[.pointer none, .slice none 0 0] 48)) := (Below.refl _ w1).alloc (Nat.le_refl _) _
    exact ⟨C1.out.below ha, Lib.IsBuilderF.of (Lib.fresh_isBuilder _ _ w1), B1.out.trans (ha.mono B1.out.size), C1.out.lt, B1.out.size, by simp⟩
  obtain ⟨w2, hw2⟩ : ∃ w2, w2 = w1.alloc (.cells #[.pointer none, .slice none 0 0] 48) := ⟨_, rfl⟩
  obtain ⟨bb, hbb⟩ : ∃ bb, bb = w1.heap.size := ⟨_, rfl⟩
  rw [← hw2, ← hbb] at HE0
  clear c0 c1 c2 c3 c4 c5 c6
  obtain ⟨c0, c1, c2, c3, c4, c5, c6⟩ := HE0.out.ct.cell
  rw [hw2] at c0 c1 c2 c3 c4 c5 c6
  go_wp2_with fail
  clear c0 c1 c2 c3 c4 c5 c6
  rw [← hw2, ← hbb]
  have x0 : ∀ w, (Instr.index 49 (.agg #[.int .i64 n, .int .i64 a, .int .i64 b, .int .i64 c, .int .i64 d]) (.int .i64 0)).run Try.prog w = .ok (.int .i64 n) w := fun _ => by kernel_rfl
  have x1 : ∀ w, (Instr.index 49 (.agg #[.int .i64 n, .int .i64 a, .int .i64 b, .int .i64 c, .int .i64 d]) (.int .i64 1)).run Try.prog w = .ok (.int .i64 a) w := fun _ => by kernel_rfl
  have x2 : ∀ w, (Instr.index 49 (.agg #[.int .i64 n, .int .i64 a, .int .i64 b, .int .i64 c, .int .i64 d]) (.int .i64 2)).run Try.prog w = .ok (.int .i64 b) w := fun _ => by kernel_rfl
  have x3 : ∀ w, (Instr.index 49 (.agg #[.int .i64 n, .int .i64 a, .int .i64 b, .int .i64 c, .int .i64 d]) (.int .i64 3)).run Try.prog w = .ok (.int .i64 c) w := fun _ => by kernel_rfl
  have x4 : ∀ w, (Instr.index 49 (.agg #[.int .i64 n, .int .i64 a, .int .i64 b, .int .i64 c, .int .i64 d]) (.int .i64 4)).run Try.prog w = .ok (.int .i64 d) w := fun _ => by kernel_rfl
  have y0 : ∀ w, (Instr.index 55 (.agg #[.int .i64 s, .int .i64 k]) (.int .i64 0)).run Try.prog w = .ok (.int .i64 s) w := fun _ => by kernel_rfl
  have y1 : ∀ w, (Instr.index 55 (.agg #[.int .i64 s, .int .i64 k]) (.int .i64 1)).run Try.prog w = .ok (.int .i64 k) w := fun _ => by kernel_rfl
  clear hw2 hbb C1 B1
  go_loopw [46] (fun i wr => ∃ l, Hid (EN w wr bt bb a b c d n s k l) ∧ ((i = .int .i64 0 ∧ l = []) ∨ (i = .int .i64 1 ∧ l = bg n 4) ∨ (i = .int .i64 2 ∧ l = bg n 4 ++ bg a 4) ∨ (i = .int .i64 3 ∧ l = bg n 4 ++ bg a 4 ++ bg b 4) ∨ (i = .int .i64 4 ∧ l = bg n 4 ++ bg a 4 ++ bg b 4 ++ bg c 4) ∨ (i = .int .i64 5 ∧ l = bg n 4 ++ bg a 4 ++ bg b 4 ++ bg c 4 ++ bg d 4))) (fun i _ => 5 - (intOf i).toNat)
  case atStart => exact ⟨_, HE0.out, .inl ⟨rfl, rfl⟩⟩
  case round =>
    obtain ⟨l, HE, hrel⟩ := hrel
    have hbn := HBD.out.2.1
    obtain ⟨hba, hbb, hbc, hbd⟩ := HBE.out
    rcases hrel with ⟨rfl, hl⟩ | ⟨rfl, hl⟩ | ⟨rfl, hl⟩ | ⟨rfl, hl⟩ | ⟨rfl, hl⟩ | ⟨rfl, hl⟩
    · go_wp2_with fail
      refine (big_4 n _ (by omega) (by omega)).mono ?_
      rintro e wn ⟨rfl, hwn⟩
      have HEn := Lib.hid (HE.out.below hwn)
      clear hwn HE
      go_wp2_with fail
      refine (write_c bb bb (Lib.byteCells l) ⟨(bg n 4).toArray⟩ _ HEn.out.ib (by rw [Lib.byteCells_length, bg_sz, hl]; simp [bg_len]) HEn.out.sz).mono ?_
      rintro e wf ⟨rfl, hat, hbf⟩
      have HF := Lib.hid (HEn.out.add hbf hat)
      clear hat hbf HEn
      go_wp2_with fail
      go_roundw
      case rel => exact ⟨_, HF.out, .inr (.inl ⟨rfl, by rw [hl]; try rfl⟩)⟩
      case measure => decide
    · go_wp2_with fail
      refine (big_4 a _ (by omega) (by omega)).mono ?_
      rintro e wn ⟨rfl, hwn⟩
      have HEn := Lib.hid (HE.out.below hwn)
      clear hwn HE
      go_wp2_with fail
      refine (write_c bb bb (Lib.byteCells l) ⟨(bg a 4).toArray⟩ _ HEn.out.ib (by rw [Lib.byteCells_length, bg_sz, hl]; simp [bg_len]) HEn.out.sz).mono ?_
      rintro e wf ⟨rfl, hat, hbf⟩
      have HF := Lib.hid (HEn.out.add hbf hat)
      clear hat hbf HEn
      go_wp2_with fail
      go_roundw
      case rel => exact ⟨_, HF.out, .inr (.inr (.inl ⟨rfl, by rw [hl]; try rfl⟩))⟩
      case measure => decide
    · go_wp2_with fail
      refine (big_4 b _ (by omega) (by omega)).mono ?_
      rintro e wn ⟨rfl, hwn⟩
      have HEn := Lib.hid (HE.out.below hwn)
      clear hwn HE
      go_wp2_with fail
      refine (write_c bb bb (Lib.byteCells l) ⟨(bg b 4).toArray⟩ _ HEn.out.ib (by rw [Lib.byteCells_length, bg_sz, hl]; simp [bg_len]) HEn.out.sz).mono ?_
      rintro e wf ⟨rfl, hat, hbf⟩
      have HF := Lib.hid (HEn.out.add hbf hat)
      clear hat hbf HEn
      go_wp2_with fail
      go_roundw
      case rel => exact ⟨_, HF.out, .inr (.inr (.inr (.inl ⟨rfl, by rw [hl]; try rfl⟩)))⟩
      case measure => decide
    · go_wp2_with fail
      refine (big_4 c _ (by omega) (by omega)).mono ?_
      rintro e wn ⟨rfl, hwn⟩
      have HEn := Lib.hid (HE.out.below hwn)
      clear hwn HE
      go_wp2_with fail
      refine (write_c bb bb (Lib.byteCells l) ⟨(bg c 4).toArray⟩ _ HEn.out.ib (by rw [Lib.byteCells_length, bg_sz, hl]; simp [bg_len]) HEn.out.sz).mono ?_
      rintro e wf ⟨rfl, hat, hbf⟩
      have HF := Lib.hid (HEn.out.add hbf hat)
      clear hat hbf HEn
      go_wp2_with fail
      go_roundw
      case rel => exact ⟨_, HF.out, .inr (.inr (.inr (.inr (.inl ⟨rfl, by rw [hl]; try rfl⟩))))⟩
      case measure => decide
    · go_wp2_with fail
      refine (big_4 d _ (by omega) (by omega)).mono ?_
      rintro e wn ⟨rfl, hwn⟩
      have HEn := Lib.hid (HE.out.below hwn)
      clear hwn HE
      go_wp2_with fail
      refine (write_c bb bb (Lib.byteCells l) ⟨(bg d 4).toArray⟩ _ HEn.out.ib (by rw [Lib.byteCells_length, bg_sz, hl]; simp [bg_len]) HEn.out.sz).mono ?_
      rintro e wf ⟨rfl, hat, hbf⟩
      have HF := Lib.hid (HEn.out.add hbf hat)
      clear hat hbf HEn
      go_wp2_with fail
      go_roundw
      case rel => exact ⟨_, HF.out, .inr (.inr (.inr (.inr (.inr (⟨rfl, by rw [hl]; try rfl⟩)))))⟩
      case measure => decide
    · have HEl := Lib.hid HE.out
      rw [hl] at HEl
      clear HE hl
      have HEa := Lib.hid HEl.out
      clear HEl
      obtain ⟨c0, c1, c2, c3, c4, c5, c6⟩ := HEa.out.ct.cell
      go_wp2_with fail
      clear c0 c1 c2 c3 c4 c5 c6 hbn hba hbb hbc hbd
      go_loopw [58] (fun i wr => ∃ l, Hid (EN w wr bt bb a b c d n s k l) ∧ ((i = .int .i64 0 ∧ l = bg n 4 ++ bg a 4 ++ bg b 4 ++ bg c 4 ++ bg d 4) ∨ (i = .int .i64 1 ∧ l = bg n 4 ++ bg a 4 ++ bg b 4 ++ bg c 4 ++ bg d 4 ++ bg s 6) ∨ (i = .int .i64 2 ∧ l = bg n 4 ++ bg a 4 ++ bg b 4 ++ bg c 4 ++ bg d 4 ++ bg s 6 ++ bg k 6))) (fun i _ => 2 - (intOf i).toNat)
      case atStart => exact ⟨_, HEa.out, .inl ⟨rfl, rfl⟩⟩
      case round =>
        obtain ⟨l, HE, hrel⟩ := hrel
        have hbn := HBD.out.2.1
        have hbs := HBD.out.2.2.1
        have hbk := HBD.out.2.2.2
        rcases hrel with ⟨rfl, hl⟩ | ⟨rfl, hl⟩ | ⟨rfl, hl⟩
        · go_wp2_with fail
          refine (big_6 s _ (by omega) (by omega)).mono ?_
          rintro e wn ⟨rfl, hwn⟩
          have HEn := Lib.hid (HE.out.below hwn)
          clear hwn HE
          go_wp2_with fail
          refine (write_c bb bb (Lib.byteCells l) ⟨(bg s 6).toArray⟩ _ HEn.out.ib (by rw [Lib.byteCells_length, bg_sz, hl]; simp [bg_len]) HEn.out.sz).mono ?_
          rintro e wf ⟨rfl, hat, hbf⟩
          have HF := Lib.hid (HEn.out.add hbf hat)
          clear hat hbf HEn
          go_wp2_with fail
          go_roundw
          case rel => exact ⟨_, HF.out, .inr (.inl ⟨rfl, by rw [hl]; try rfl⟩)⟩
          case measure => decide
        · go_wp2_with fail
          refine (big_6 k _ (by omega) (by omega)).mono ?_
          rintro e wn ⟨rfl, hwn⟩
          have HEn := Lib.hid (HE.out.below hwn)
          clear hwn HE
          go_wp2_with fail
          refine (write_c bb bb (Lib.byteCells l) ⟨(bg k 6).toArray⟩ _ HEn.out.ib (by rw [Lib.byteCells_length, bg_sz, hl]; simp [bg_len]) HEn.out.sz).mono ?_
          rintro e wf ⟨rfl, hat, hbf⟩
          have HF := Lib.hid (HEn.out.add hbf hat)
          clear hat hbf HEn
          go_wp2_with fail
          go_roundw
          case rel => exact ⟨_, HF.out, .inr (.inr (⟨rfl, by rw [hl]; try rfl⟩))⟩
          case measure => decide
        · have HEl := Lib.hid HE.out
          rw [hl] at HEl
          clear HE hl
          go_wp2_with fail
          refine (rep_28 _).mono ?_
          rintro e w3 ⟨rfl, hb3⟩
          have HE3 := Lib.hid (HEl.out.below hb3)
          clear hb3 HEl
          go_wp2_with fail
          refine (write_c bb bb (Lib.byteCells _) ⟨(List.replicate 28 (0 : UInt8)).toArray⟩ _ HE3.out.ib (by rw [Lib.byteCells_length, bs_size]; simp [bg_len]) HE3.out.sz).mono ?_
          rintro e w4 ⟨rfl, hat, hbf⟩
          have HE4 := Lib.hid (HE3.out.add hbf hat)
          clear hat hbf HE3
          obtain ⟨c0, c1, c2, c3, c4, c5, c6⟩ := HE4.out.ct.cell
          go_wp2_with fail
          clear c0 c1 c2 c3 c4 c5 c6
          refine (big_4 n _ (by omega) (by omega)).mono ?_
          rintro e w5 ⟨rfl, hb5⟩
          have HE5 := Lib.hid (HE4.out.below hb5)
          clear hb5 HE4
          go_wp2_with fail
          refine (write_c bb bb (Lib.byteCells _) ⟨(bg n 4).toArray⟩ _ HE5.out.ib (by rw [Lib.byteCells_length, bs_size]; simp [bg_len]) HE5.out.sz).mono ?_
          rintro e w6 ⟨rfl, hat, hbf⟩
          have HE6 := Lib.hid (HE5.out.add hbf hat)
          clear hat hbf HE5
          go_wp2_with fail
          refine (Try.Builder_String_any_f bb bb _ _ HE6.out.ib HE6.out.sz).mono ?_
          rintro e w7 ⟨rfl, hi7, hb7⟩
          have HE7 := Lib.hid (HE6.out.write hb7 hi7)
          clear hi7 hb7 HE6
          go_wp2_with fail
          go_ret2
          exact ⟨congrArg Ending.returned (encV_yes HOK.out).symm, HE7.out.bel⟩
end Go.Proofs.Ytbhiijjnobcmoaa
