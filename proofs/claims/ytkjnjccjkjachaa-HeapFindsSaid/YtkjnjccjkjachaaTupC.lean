/- Versions' bytes: how they are read. -/
import Derived.Test.YtkjnjccjkjachaaTupB
import Derived.Test.YtkjnjccjkjachaaLex
import Derived.Deep.RegionHeld3
import Derived.Deep.DeepCutAuto
import Derived.Laws.ResultCell
import Derived.Laws.Rows
namespace Go.Proofs.Ytkjnjccjkjachaa
open Go.RowKit
set_option linter.unusedSimpArgs false
set_option maxRecDepth 100000

/-- A version, and what is told of it. -/
def decRes : Option (Int × Int × Bool × ByteArray × ByteArray) → Value
  | some (x, y, f, k, v) => .tuple #[.agg #[.int .i64 x, .int .i64 y, .bool f, .string k, .string v], .int .i64 0]
  | none => .tuple #[.agg #[.int .i64 0, .int .i64 0, .bool false, .string ⟨#[]⟩, .string ⟨#[]⟩], .int .i64 110]
/-- The first byte. -/
def hd (s : ByteArray) : Nat := (s.data.toList.headD 0).toNat
/-- What is behind five bytes: key, value, what is left, what was wrong. -/
def bodyV (s : ByteArray) : ByteArray × ByteArray × ByteArray × Int :=
  ((textOut (s.extract 5 s.size) 24).1, (stepT (textOut (s.extract 5 s.size) 24).2.1 (textOut (s.extract 5 s.size) 24).2.2 64).1, (stepT (textOut (s.extract 5 s.size) 24).2.1 (textOut (s.extract 5 s.size) 24).2.2 64).2.1, (stepT (textOut (s.extract 5 s.size) 24).2.1 (textOut (s.extract 5 s.size) 24).2.2 64).2.2)
def xV (s : ByteArray) : Nat := ofV (List.take 2 s.data.toList.tail)
def yV (s : ByteArray) : Nat := ofV (List.take 2 (List.drop 3 s.data.toList))
/-- The version of bytes. -/
def decV (s : ByteArray) : Option (Int × Int × Bool × ByteArray × ByteArray) :=
  if 5 ≤ s.size ∧ (hd s = 1 ∨ hd s = 3) ∧ endV (bodyV s).2.2.1.size (bodyV s).2.2.2 = 0 ∧ encok (xV s) (yV s) (bodyV s).1 (bodyV s).2.1 = true then some (xV s, yV s, decide (hd s = 3), (bodyV s).1, (bodyV s).2.1) else none

theorem hd_eq (s : ByteArray) (h : 0 < s.size) : s[0].toNat = hd s := by
  unfold hd
  have h' : 0 < s.data.toList.length := h
  rw [List.headD_eq_head?_getD, List.head?_eq_getElem?, List.getElem?_eq_getElem h']
  rfl

/-- A block holds a version. -/
def TB (w : World) (b : Nat) (x y : Int) (f : Bool) (k v : ByteArray) : Prop := w.heap[b]? = some (.cells #[.int .i64 x, .int .i64 y, .bool f, .string k, .string v] 26 (0, 0))
theorem TB.cell {w : World} {b : Nat} {x y : Int} {f : Bool} {k v : ByteArray} (h : TB w b x y f k v) :
    w.cell? ⟨b, 0, none⟩ = some (.int .i64 x) ∧ w.cell? ⟨b, 1, none⟩ = some (.int .i64 y) ∧ w.cell? ⟨b, 2, none⟩ = some (.bool f) ∧ w.cell? ⟨b, 3, none⟩ = some (.string k) ∧ w.cell? ⟨b, 4, none⟩ = some (.string v) := by
  unfold TB at h
  refine ⟨?_, ?_, ?_, ?_, ?_⟩ <;> (simp only [World.cell?, h]; rfl)
theorem TB.fr {w : World} {b : Nat} {x y : Int} {f : Bool} {k v : ByteArray} (h : TB w b x y f k v) (j : Nat) : w.frozen? ⟨b, j, none⟩ = false := frozen_of_row w b j _ _ h
theorem TB.lt {w : World} {b : Nat} {x y : Int} {f : Bool} {k v : ByteArray} (h : TB w b x y f k v) : b < w.heap.size := World.block_lt_of_cell? w _ h.cell.1
theorem TB.grown {w w' : World} {b : Nat} {x y : Int} {f : Bool} {k v : ByteArray} (h : TB w b x y f k v) {row : Option Nat} (hg : w.grownBy w' row) (hr : some b ≠ row) : TB w' b x y f k v := (hg.block b h.lt hr).trans h
theorem TB.below {w w' : World} {b : Nat} {x y : Int} {f : Bool} {k v : ByteArray} (h : TB w b x y f k v) (hb : Below w.heap.size w w') : TB w' b x y f k v := h.grown (grown_of hb) (by simp)
theorem TB.new (w : World) (x y : Int) (f : Bool) (k v : ByteArray) : TB (w.alloc (.cells #[.int .i64 x, .int .i64 y, .bool f, .string k, .string v] 26)) w.heap.size x y f k v := heap_alloc_new w _
theorem TB.set3 {w : World} {b : Nat} {x y : Int} {f : Bool} {k v : ByteArray} (h : TB w b x y f k v) (k' : ByteArray) : TB (w.setCell ⟨b, 3, none⟩ (.string k')) b x y f k' v := heap_setCell_same w b 3 _ _ _ h
theorem TB.set4 {w : World} {b : Nat} {x y : Int} {f : Bool} {k v : ByteArray} (h : TB w b x y f k v) (v' : ByteArray) : TB (w.setCell ⟨b, 4, none⟩ (.string v')) b x y f k v' := heap_setCell_same w b 4 _ _ _ h
theorem TB.setAll {w : World} {b : Nat} {x y : Int} {f : Bool} {k v : ByteArray} (h : TB w b x y f k v) (x' y' : Int) (f' : Bool) (k' v' : ByteArray) :
    TB (((((w.setCell ⟨b, 0, none⟩ (.int .i64 x')).setCell ⟨b, 1, none⟩ (.int .i64 y')).setCell ⟨b, 2, none⟩ (.bool f')).setCell ⟨b, 3, none⟩ (.string k')).setCell ⟨b, 4, none⟩ (.string v')) b x' y' f' k' v' := by
  have h0 : (w.setCell ⟨b, 0, none⟩ (.int .i64 x')).heap[b]? = _ := heap_setCell_same w b 0 _ _ (.int .i64 x') h
  have h1 := heap_setCell_same _ b 1 _ _ (.int .i64 y') h0
  have h2 := heap_setCell_same _ b 2 _ _ (.bool f') h1
  exact TB.set4 (TB.set3 (k := k) (v := v) h2 k') v'

theorem set5_below {b : Nat} {W w : World} (h : Below W.heap.size W w) (hb : W.heap.size ≤ b) (v0 v1 v2 v3 v4 : Value) :
    Below W.heap.size W (((((w.setCell ⟨b, 0, none⟩ v0).setCell ⟨b, 1, none⟩ v1).setCell ⟨b, 2, none⟩ v2).setCell ⟨b, 3, none⟩ v3).setCell ⟨b, 4, none⟩ v4) := by
  have g := grown_trans (grown_trans (grown_trans (grown_trans (grown_set w b 0 v0) (grown_set _ b 1 v1)) (grown_set _ b 2 v2)) (grown_set _ b 3 v3)) (grown_set _ b 4 v4)
  exact h.grown g h.size (by rintro j hj; cases hj; exact hb)
/-- A function whose first result lies in a block. -/
theorem ret_cell {P : Program} {fn : Func} {R : Ending → World → Prop} {a : Act} {w : World} {p u : Tmp} {ty : TypeId} (h : fn.results = #[.cell p ty, .tmp u]) (g : Nat) (t : TypeId) (cs : Array Value) (fr : Nat × Nat) (d : TypeDesc)
    (hp : a.tmps.getD p undef = .pointer (some ⟨g, 0, none⟩)) (hg : w.heap[g]? = some (.cells cs t fr))
    (hu : P.underlying ty = some d) (hd : (match d with | .struct _ | .array _ _ => true | _ => false) = true) (hi : (P.info? ty).map (·.size) = some cs.size)
    (hdef : a.defers = []) (hR : R (.returned (.tuple #[.agg cs, a.tmps.getD u undef])) w) : bodyPost P fn R .ret a w := by
  refine bodyPost_ret_by ?_ hdef hR
  rw [results_cell_tmp h, hp]
  simp [asAddr, run_loadVar_row w g t ty cs fr d hg hu hd hi, Result.andThen]

theorem rd_le (most : Int) : ∀ (f k acc : Nat) (l : List UInt8) (m k' : Nat), rd most f k acc l = .inr (m, k') → (m : Int) ≤ max most 0 := by
  intro f
  induction f with
  | zero => intro k acc l m k' h; rw [rd] at h; cases h
  | succ f ih =>
    intro k acc l m k' h
    cases l with
    | nil => rw [rd] at h; cases h
    | cons b l =>
      rw [rd] at h
      split at h
      · cases h
      · split at h
        · exact ih _ _ _ _ _ h
        · split at h
          · cases h
          · injection h with h; injection h with h1 _
            omega
theorem textOut_le (s : ByteArray) (most : Int) : ((textOut s most).1.size : Int) ≤ max most 0 := by
  have hz : (((⟨#[]⟩ : ByteArray).size : Nat) : Int) ≤ max most 0 := by show ((0 : Nat) : Int) ≤ _; omega
  rcases numOut_cases s most with ⟨c, hn, hc⟩ | ⟨n, r, hn⟩
  · have e : textOut s most = (⟨#[]⟩, ⟨#[]⟩, (c : Int)) := by unfold textOut; rw [hn]; simp; omega
    rw [e]; exact hz
  · have e : textOut s most = if (r.size : Int) < n then (⟨#[]⟩, ⟨#[]⟩, 10) else (⟨(r.data.toList.take n).toArray⟩, ⟨(r.data.toList.drop n).toArray⟩, 0) := by unfold textOut; rw [hn]; simp
    rw [e]
    split
    · exact hz
    · have hm : (n : Int) ≤ max most 0 := by
        unfold numOut at hn
        split at hn
        · rename_i c hc
          injection hn with _ h2; injection h2 with _ h3
          have := rd_inl most _ _ _ _ _ hc
          omega
        · rename_i m k hx
          injection hn with h1 _
          have := rd_le most _ _ _ _ _ _ hx
          omega
      show (((r.data.toList.take n).toArray.size : Nat) : Int) ≤ _
      rw [List.size_toArray, List.length_take]
      omega
theorem stepT_le (s : ByteArray) (c most : Int) : ((stepT s c most).1.size : Int) ≤ max most 0 := by
  unfold stepT
  split
  · exact textOut_le s most
  · show ((0 : Nat) : Int) ≤ _; omega
set_option maxRecDepth 8000 in
theorem flag_and : ∀ b : Fin 256, (bits BinOp.andNot IntKind.u8 ((b : Nat) : Int) 2 = 1 ↔ ((b : Nat) = 1 ∨ (b : Nat) = 3)) := by decide
theorem flag_fz {b : Nat} (h : b = 1 ∨ b = 3) : (bits BinOp.and IntKind.u8 (b : Int) 2 != 0) = decide (b = 3) := by rcases h with rfl | rfl <;> decide
theorem empty_iff (k : ByteArray) : k.toList.isEmpty = decide (k.size = 0) := by
  rw [ByteArray.toList_eq]
  have h : k.data.toList.length = k.size := Array.length_toList
  cases hl : k.data.toList with
  | nil => rw [hl] at h; simp at h; simp [← h]
  | cons b l => rw [hl] at h; simp at h; simp [← h]

/-- While a version is being read. -/
structure DecS (W wx : World) (br b1 g : Nat) (x y : Int) (f : Bool) (k v rest : ByteArray) (c : Int) : Prop where
  res : TB wx br 0 0 false ⟨#[]⟩ ⟨#[]⟩
  rd : RdV wx b1 rest c
  tb : TB wx g x y f k v
  bel : Below W.heap.size W wx
  n0 : W.heap.size ≤ br
  n1 : br < b1
  n2 : b1 < g

set_option maxRecDepth 100000 in
set_option maxHeartbeats 4000000 in
theorem dec_long (s : ByteArray) (w : World) (hs : s.size ≤ 9223372036854775807) (h5 : 5 ≤ s.size) :
    Calls Try.prog 28 #[.string s] w fun e w' => e = .returned (decRes (decV s)) ∧ Below w.heap.size w w' := by
  have hg0 : 0 < s.size := by omega
  have hi1 : (1 : Int) ≤ (s.size : Int) := by omega
  have hi3 : (3 : Int) ≤ (s.size : Int) := by omega
  have hi5 : (5 : Int) ≤ (s.size : Int) := by omega
  have CO := Lib.hid (fun (t : ByteArray) (w : World) (h : t.size ≤ 9223372036854775807) => of_c t w h)
  obtain ⟨wb, hwb⟩ : ∃ wb, wb = w.alloc (.cells #[.int .i64 0, .int .i64 0, .bool false, .string ⟨#[]⟩, .string ⟨#[]⟩] 26) := ⟨_, rfl⟩
  obtain ⟨br, hbr⟩ : ∃ br, br = w.heap.size := ⟨_, rfl⟩
  have HWB := Lib.hid hwb
  have HBR := Lib.hid hbr
  have HRB : Hid (TB wb br 0 0 false ⟨#[]⟩ ⟨#[]⟩) := by rw [hwb, hbr]; exact TB.new w 0 0 false ⟨#[]⟩ ⟨#[]⟩
  have HB : Hid (Below w.heap.size w wb) := by rw [hwb]; exact (Below.refl _ w).alloc (Nat.le_refl _) _
  clear hwb hbr
  go_enter Try.func28, Try.ntmps28
  go_upto_region 3 with (fail)
  rw [← HWB.out, ← HBR.out]
  obtain ⟨b1, hb1⟩ : ∃ b1, b1 = wb.heap.size := ⟨_, rfl⟩
  have HN1 : Hid (br < b1) := by rw [hb1]; exact HRB.out.lt
  have HBE := Lib.hid hb1
  clear hb1
  have HRBd : Hid (TB wb.drew br 0 0 false ⟨#[]⟩ ⟨#[]⟩) := HRB.out
  have HBd : Hid (Below w.heap.size w wb.drew) := ⟨HB.out.os, HB.out.tape, HB.out.output, HB.out.size, HB.out.block⟩
  go_cut [4, 5] (fun s4 s5 wx => s4 = .int .u8 s[0].toNat ∧ s5 = .pointer (some ⟨b1, 0, none⟩) ∧ Hid (TB wx br 0 0 false ⟨#[]⟩ ⟨#[]⟩ ∧ RdV wx b1 (s.extract 5 s.size) 0 ∧ Below w.heap.size w wx))
  case first =>
    go_region_held3 (fun w' => TB w' br 0 0 false ⟨#[]⟩ ⟨#[]⟩) ((first | exact HRBd.out | exact hrb1)) (first | (go_at_call 45; refine (read_c _ _).mono ?_; rintro e w1 ⟨rfl, hr1, hb1, hz1⟩; have hrb1 := HRBd.out.below hb1))
    all_goals (have HR1 : Hid (RdV w1 wb.heap.size (s.extract 5 s.size) 0) := hr1; have HB1 := Lib.hid (HBd.out.trans (hb1.mono HBd.out.size)); have HRB1 := Lib.hid hrb1; clear hr1 hb1 hrb1 hz1; rw [← HBE.out] at HR1 ⊢; go_wp2_with fail; go_meet; exact ⟨rfl, rfl, HRB1.out, HR1.out, HB1.out⟩)
  case rest =>
    obtain ⟨rfl, rfl, HS⟩ := hcut
    have HR1 := Lib.hid HS.out.2.1
    have HRB1 := Lib.hid HS.out.1
    have HB1 := Lib.hid HS.out.2.2
    have HN0 : Hid (w.heap.size ≤ br) := by unfold Hid; rw [HBR.out]; exact Nat.le_refl _
    clear HS HBE HB HRB HWB HBR HRBd HBd
    go_upto_region 4 with (fail)
    have hb0 := hd_eq s hg0
    have hb256 := s[0].toNat_lt
    generalize s[0].toNat = b0 at *
    have HB0 := Lib.hid hb0
    have HB256 := Lib.hid hb256
    clear hb0 hb256
    have HRBe : Hid (TB wc.drew br 0 0 false ⟨#[]⟩ ⟨#[]⟩) := HRB1.out
    go_cut [6] (fun s6 wx => ∃ g, s6 = .pointer (some ⟨g, 0, none⟩) ∧ Hid (DecS w wx br b1 g (xV s) (yV s) (bits BinOp.and IntKind.u8 (b0 : Int) 2 != 0) ⟨#[]⟩ ⟨#[]⟩ (s.extract 5 s.size) 0))
    case first =>
      go_region_held3 (fun w' => TB w' br 0 0 false ⟨#[]⟩ ⟨#[]⟩) ((first | exact HRBe.out | exact TB.below HRBe.out ((Below.refl _ _).alloc (Nat.le_refl _) _))) (first | (go_at_call 46; refine (CO.out _ _ (by rw [ByteArray.size_extract]; omega)).mono ?_; rintro e w2 ⟨rfl, rfl⟩))
      all_goals (
        go_wp2_with fail
        go_meet
        have hbz : Below wc.heap.size wc (wc.alloc (.cells #[.int .i64 (xV s), .int .i64 (yV s), .bool (bits BinOp.and IntKind.u8 (b0 : Int) 2 != 0), .string ⟨#[]⟩, .string ⟨#[]⟩] 26)) := (Below.refl _ wc).alloc (Nat.le_refl _) _
        have hD : DecS w (wc.alloc (.cells #[.int .i64 (xV s), .int .i64 (yV s), .bool (bits BinOp.and IntKind.u8 (b0 : Int) 2 != 0), .string ⟨#[]⟩, .string ⟨#[]⟩] 26)) br b1 wc.heap.size (xV s) (yV s) (bits BinOp.and IntKind.u8 (b0 : Int) 2 != 0) ⟨#[]⟩ ⟨#[]⟩ (s.extract 5 s.size) 0 :=
          ⟨HRB1.out.below hbz, HR1.out.below hbz, TB.new wc _ _ _ _ _, HB1.out.trans (hbz.mono HB1.out.size), HN0.out, HN1.out, HR1.out.lt⟩
        exact ⟨_, rfl, ⟨hD.res, ⟨hD.rd.rest, hD.rd.err, hD.rd.f0, hD.rd.f1⟩, hD.tb, ⟨hD.bel.os, hD.bel.tape, hD.bel.output, hD.bel.size, hD.bel.block⟩, hD.n0, hD.n1, hD.n2⟩⟩)
    case rest =>
      obtain ⟨g, rfl, HS⟩ := hcut
      clear HRBe HRB1 HR1 HB1 HN0 HN1 CO
      have HB5 : Hid (bodyV s = ((textOut (s.extract 5 s.size) 24).1, (stepT (textOut (s.extract 5 s.size) 24).2.1 (textOut (s.extract 5 s.size) 24).2.2 64).1, (stepT (textOut (s.extract 5 s.size) 24).2.1 (textOut (s.extract 5 s.size) 24).2.2 64).2.1, (stepT (textOut (s.extract 5 s.size) 24).2.1 (textOut (s.extract 5 s.size) 24).2.2 64).2.2)) := rfl
      have hkl := textOut_le (s.extract 5 s.size) 24
      have hvl := stepT_le (textOut (s.extract 5 s.size) 24).2.1 (textOut (s.extract 5 s.size) 24).2.2 64
      have CT1 := Lib.hid (fun w => text_r b1 (s.extract 5 s.size) 24 w)
      have CT2 := Lib.hid (fun w => text_any b1 (textOut (s.extract 5 s.size) 24).2.1 (textOut (s.extract 5 s.size) 24).2.2 64 w)
      generalize textOut (s.extract 5 s.size) 24 = o at CT1 CT2 HB5 hkl hvl
      obtain ⟨k, r1, c1⟩ := o
      generalize stepT (k, r1, c1).2.1 (k, r1, c1).2.2 64 = p at CT2 HB5 hvl
      obtain ⟨v, r2, c2⟩ := p
      have hkl2 : k.size ≤ 24 := by have h := hkl; simp at h; omega
      have hvl2 : v.size ≤ 64 := by have h := hvl; simp at h; omega
      clear hkl hvl
      go_wp2_with fail
      refine (CT1.out _ HS.out.rd).mono ?_
      rintro e w2 ⟨rfl, hr2, hg2⟩
      have H2 : Hid (DecS w w2 br b1 g (xV s) (yV s) (bits BinOp.and IntKind.u8 (b0 : Int) 2 != 0) ⟨#[]⟩ ⟨#[]⟩ r1 c1) := by
        have h1 := HS.out.n0; have h2 := HS.out.n1; have h3 := HS.out.n2
        exact ⟨HS.out.res.grown hg2 (by simp; omega), hr2, HS.out.tb.grown hg2 (by simp; omega), HS.out.bel.grown hg2 HS.out.bel.size (by rintro j hj; cases hj; omega), h1, h2, h3⟩
      clear hr2 hg2
      go_wp2_with fail
      refine (CT2.out _ H2.out.rd).mono ?_
      rintro e w3 ⟨rfl, hr3, hg3⟩
      have H3 : Hid (DecS w w3 br b1 g (xV s) (yV s) (bits BinOp.and IntKind.u8 (b0 : Int) 2 != 0) ⟨#[]⟩ ⟨#[]⟩ r2 c2) := by
        have h1 := H2.out.n0; have h2 := H2.out.n1; have h3 := H2.out.n2
        exact ⟨H2.out.res.grown hg3 (by simp; omega), hr3, H2.out.tb.grown hg3 (by simp; omega), H2.out.bel.grown hg3 H2.out.bel.size (by rintro j hj; cases hj; omega), h1, h2, h3⟩
      have H4 : Hid (DecS w ((w3.setCell ⟨g, 3, none⟩ (.string k)).setCell ⟨g, 4, none⟩ (.string v)) br b1 g (xV s) (yV s) (bits BinOp.and IntKind.u8 (b0 : Int) 2 != 0) k v r2 c2) := by
        have h1 := H3.out.n0; have h2 := H3.out.n1; have h3 := H3.out.n2
        have g1 := grown_set w3 g 3 (.string k)
        have g2 := grown_set (w3.setCell ⟨g, 3, none⟩ (.string k)) g 4 (.string v)
        have g12 := grown_trans g1 g2
        exact ⟨H3.out.res.grown g12 (by simp; omega), H3.out.rd.grown g12 (by simp; omega), (H3.out.tb.set3 k).set4 v, H3.out.bel.grown g12 H3.out.bel.size (by rintro j hj; cases hj; omega), h1, h2, h3⟩
      obtain ⟨t0, t1, t2, t3, t4⟩ := H3.out.tb.cell
      have tf3 := H3.out.tb.fr 3
      have tf4 := H3.out.tb.fr 4
      clear hr3 hg3 H2 HS CT1 CT2
      go_wp2_with fail
      generalize (w3.setCell ⟨g, 3, none⟩ (.string k)).setCell ⟨g, 4, none⟩ (.string v) = w4 at H4 ⊢
      clear t0 t1 t2 t3 t4 tf3 tf4 H3
      refine (end_r b1 r2 c2 w4 H4.out.rd).mono ?_
      rintro e w5 ⟨rfl, rfl⟩
      obtain ⟨t0, t1, t2, t3, t4⟩ := H4.out.tb.cell
      obtain ⟨u0, u1, u2, u3, u4⟩ := H4.out.res.cell
      have uf0 := H4.out.res.fr 0
      have uf1 := H4.out.res.fr 1
      have uf2 := H4.out.res.fr 2
      have uf3 := H4.out.res.fr 3
      have uf4 := H4.out.res.fr 4
      have H5 := Lib.hid h5
      have HKL := Lib.hid hkl2
      have HVL := Lib.hid hvl2
      clear hs hi1 hi3 hi5 hg0 h5 hkl2 hvl2
      have HZB := Lib.hid (set5_below H4.out.bel H4.out.n0 (.int .i64 0) (.int .i64 0) (.bool false) (.string ⟨#[]⟩) (.string ⟨#[]⟩))
      have HZ := Lib.hid (TB.setAll H4.out.res 0 0 false ⟨#[]⟩ ⟨#[]⟩)
      have HAB := Lib.hid (set5_below H4.out.bel H4.out.n0 (.int .i64 (xV s)) (.int .i64 (yV s)) (.bool (bits BinOp.and IntKind.u8 (b0 : Int) 2 != 0)) (.string k) (.string v))
      have HA := Lib.hid (TB.setAll H4.out.res (xV s) (yV s) (bits BinOp.and IntKind.u8 (b0 : Int) 2 != 0) k v)
      have HD : Hid (decV s = if 5 ≤ s.size ∧ (b0 = 1 ∨ b0 = 3) ∧ endV r2.size c2 = 0 ∧ encok (xV s) (yV s) k v = true then some (((xV s : Nat) : Int), ((yV s : Nat) : Int), decide (b0 = 3), k, v) else none) := by
        unfold Hid decV; rw [HB5.out, HB0.out]
      have HBB : Hid (b0 < 256) := HB256.out
      generalize endV r2.size c2 = E at *
      generalize xV s = X at *
      generalize yV s = Y at *
      have hke := empty_iff k
      by_cases hE : E = 0
      · subst hE
        by_cases hfl : b0 = 1 ∨ b0 = 3
        · have hf1 : (bits BinOp.andNot IntKind.u8 (b0 : Int) 2 == 1) = true := by rw [beq_iff_eq]; exact (flag_and ⟨b0, HBB.out⟩).2 hfl
          have hf2 : (bits BinOp.andNot IntKind.u8 (b0 : Int) 2 != 1) = false := by simp [bne, hf1]
          have hfz := flag_fz hfl
          rw [hfz] at HA HAB t2
          clear hfz
          have HFL := Lib.hid hfl
          clear hfl
          by_cases hx : X = 0
          · subst hx
            have HN : Hid (decV s = none) := by unfold Hid; rw [HD.out, if_neg]; rintro ⟨q1, q2, q3, q4⟩; have := encok_yes q4; omega
            go_wp2_with fail
            refine ret_cell rfl br _ _ _ _ rfl HZ.out Try.underlying26 rfl (by kernel_rfl) rfl ?_
            rw [HN.out]
            exact ⟨rfl, HZB.out⟩
          · have hx3 : ((X : Int) == 0) = false := by rw [beq_eq_false_iff_ne]; omega
            have HX0 := Lib.hid hx
            clear hx
            by_cases hx2 : (1024 : Int) < X
            · skip
              have HN : Hid (decV s = none) := by unfold Hid; rw [HD.out, if_neg]; rintro ⟨q1, q2, q3, q4⟩; have := encok_yes q4; omega
              go_wp2_with fail
              refine ret_cell rfl br _ _ _ _ rfl HZ.out Try.underlying26 rfl (by kernel_rfl) rfl ?_
              rw [HN.out]
              exact ⟨rfl, HZB.out⟩
            · by_cases hy : (1024 : Int) < Y
              · skip
                have HN : Hid (decV s = none) := by unfold Hid; rw [HD.out, if_neg]; rintro ⟨q1, q2, q3, q4⟩; have := encok_yes q4; omega
                go_wp2_with fail
                refine ret_cell rfl br _ _ _ _ rfl HZ.out Try.underlying26 rfl (by kernel_rfl) rfl ?_
                rw [HN.out]
                exact ⟨rfl, HZB.out⟩
              · by_cases hk0 : k.size = 0
                · rw [decide_eq_true hk0] at hke
                  have HN : Hid (decV s = none) := by unfold Hid; rw [HD.out, if_neg]; rintro ⟨q1, q2, q3, q4⟩; have := encok_yes q4; omega
                  have hdx : decide ((1024 : Int) < (X : Int)) = false := decide_eq_false hx2
                  have hdy : decide ((1024 : Int) < (Y : Int)) = false := decide_eq_false hy
                  clear hk0 hx2 hy
                  go_wp2_with fail
                  refine ret_cell rfl br _ _ _ _ rfl HZ.out Try.underlying26 rfl (by kernel_rfl) rfl ?_
                  rw [HN.out]
                  exact ⟨rfl, HZB.out⟩
                · rw [decide_eq_false hk0] at hke
                  have HY : Hid (decV s = some ((X : Int), (Y : Int), decide (b0 = 3), k, v)) := by unfold Hid; rw [HD.out, if_pos]; refine ⟨H5.out, HFL.out, rfl, ?_⟩; have := HKL.out; have := HVL.out; have := HX0.out; simp [encok]; omega
                  have hdx : decide ((1024 : Int) < (X : Int)) = false := decide_eq_false hx2
                  have hdy : decide ((1024 : Int) < (Y : Int)) = false := decide_eq_false hy
                  clear hk0 hx2 hy
                  go_wp2_with fail
                  refine ret_cell rfl br _ _ _ _ rfl HA.out Try.underlying26 rfl (by kernel_rfl) rfl ?_
                  rw [HY.out]
                  exact ⟨rfl, HAB.out⟩
        · have hf1 : (bits BinOp.andNot IntKind.u8 (b0 : Int) 2 == 1) = false := by rw [beq_eq_false_iff_ne]; exact fun h => hfl ((flag_and ⟨b0, HBB.out⟩).1 h)
          have hf2 : (bits BinOp.andNot IntKind.u8 (b0 : Int) 2 != 1) = true := by simp [bne, hf1]
          have HN : Hid (decV s = none) := by unfold Hid; rw [HD.out, if_neg]; rintro ⟨q1, q2, q3, q4⟩; exact hfl q2
          go_wp2_with fail
          refine ret_cell rfl br _ _ _ _ rfl HZ.out Try.underlying26 rfl (by kernel_rfl) rfl ?_
          rw [HN.out]
          exact ⟨rfl, HZB.out⟩
      · have hE1 : (E == 0) = false := by rw [beq_eq_false_iff_ne]; exact hE
        have hE2 : (E != 0) = true := by simp [bne, hE1]
        have HN : Hid (decV s = none) := by unfold Hid; rw [HD.out, if_neg]; rintro ⟨q1, q2, q3, q4⟩; exact hE q3
        go_wp2_with fail
        refine ret_cell rfl br _ _ _ _ rfl HZ.out Try.underlying26 rfl (by kernel_rfl) rfl ?_
        rw [HN.out]
        exact ⟨rfl, HZB.out⟩

theorem dec_short (s : ByteArray) (w : World) (h5 : ¬ 5 ≤ s.size) :
    Calls Try.prog 28 #[.string s] w fun e w' => e = .returned (decRes (decV s)) ∧ Below w.heap.size w w' := by
  have HD : Hid (decV s = none) := by unfold Hid decV; rw [if_neg (fun h => h5 h.1)]
  go_enter Try.func28, Try.ntmps28
  go_wp2_with fail
  refine ret_cell rfl w.heap.size _ _ _ _ rfl (TB.new w 0 0 false ⟨#[]⟩ ⟨#[]⟩) Try.underlying26 rfl (by kernel_rfl) rfl ?_
  rw [HD.out]
  exact ⟨rfl, (Below.refl _ w).alloc (Nat.le_refl _) _⟩
theorem dec_c (s : ByteArray) (w : World) (hs : s.size ≤ 9223372036854775807) :
    Calls Try.prog 28 #[.string s] w fun e w' => e = .returned (decRes (decV s)) ∧ Below w.heap.size w w' := by
  by_cases h5 : 5 ≤ s.size
  · exact dec_long s w hs h5
  · exact dec_short s w h5
end Go.Proofs.Ytkjnjccjkjachaa
