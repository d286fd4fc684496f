/- Checks: a sector is read. -/
import Derived.Test.YtbhiijjnobcmoaaCkD
namespace Go.Proofs.Ytbhiijjnobcmoaa
open Go.RowKit
set_option linter.unusedSimpArgs false
set_option maxRecDepth 100000

/-- A control block of seven numbers, its count first as its bytes have it. -/
def okSec (l : List UInt8) (place : Int) (a b c d n s k : Int) : Bool := okCtl a b c d n s k && decide (encL a b c d n s k = l) && (bits BinOp.and IntKind.i64 n 1 == place)
def bn (l : List UInt8) (i k : Nat) : Int := (ofV ((l.drop i).take k) : Nat)
def decA (l : List UInt8) : List Int := [bn l 4 4, bn l 8 4, bn l 12 4, bn l 16 4, bn l 0 4, bn l 20 6, bn l 26 6]
/-- Decode's answer: an error, and seven numbers. -/
def decR (l : List UInt8) (place : Int) : Int × List Int :=
  if l.length = 64 ∧ okSec l place (bn l 4 4) (bn l 8 4) (bn l 12 4) (bn l 16 4) (bn l 0 4) (bn l 20 6) (bn l 26 6) = true then (0, decA l) else (223, [0, 0, 0, 0, 0, 0, 0])
def decV (l : List UInt8) (place : Int) : Value := .tuple #[.agg ((decR l place).2.map (Value.int .i64)).toArray, .int .i64 (decR l place).1]

/-- While a sector is being read: what is left of it, the numbers so far, the result. -/
structure DS (W wx : World) (bt bc br : Nat) (l : List UInt8) (a b c d n s k : Int) : Prop where
  tx : wx.heap[bt]? = some (.cells #[.string ⟨l.toArray⟩] 9 (0, 0))
  ct : CT wx bc a b c d n s k
  rs : CT wx br 0 0 0 0 0 0 0
  bel : Below W.heap.size W wx
  n0 : W.heap.size ≤ br
  n1 : br < bt
  n2 : bt < bc
theorem DS.below {W wx w' : World} {bt bc br : Nat} {l : List UInt8} {a b c d n s k : Int} (H : DS W wx bt bc br l a b c d n s k) (hb : Below wx.heap.size wx w') : DS W w' bt bc br l a b c d n s k :=
  ⟨(hb.block bt (row_lt H.tx)).trans H.tx, H.ct.below hb, H.rs.below hb, H.bel.trans (hb.mono H.bel.size), H.n0, H.n1, H.n2⟩
theorem take_d (W wx : World) (bt bc br : Nat) (l : List UInt8) (a b c d n s k : Int) (m : Nat) (H : DS W wx bt bc br l a b c d n s k) (hm : m ≤ l.length) (hl : l.length ≤ 64) :
    Calls Try.prog 28 #[.int .i64 m, .pointer (some ⟨bt, 0, none⟩)] wx fun e w' => e = .returned (.int .i64 (ofV (l.take m) : Nat)) ∧ DS W w' bt bc br (l.drop m) a b c d n s k := by
  refine (take_c l m bt wx hm hl H.tx).mono ?_
  rintro e w' ⟨rfl, rfl⟩
  have hg := grown_set wx bt 0 (.string ⟨(l.drop m).toArray⟩)
  have n0 := H.n0; have n1 := H.n1; have n2 := H.n2
  refine ⟨rfl, heap_setCell_same wx bt 0 _ _ _ H.tx, ?_, ?_, below_own H.bel (by omega) hg, n0, n1, n2⟩
  · exact (hg.block bc H.ct.lt (by simp; omega)).trans H.ct
  · exact (hg.block br H.rs.lt (by simp; omega)).trans H.rs
theorem take_4 (W wx : World) (bt bc br : Nat) (l : List UInt8) (a b c d n s k : Int) (H : DS W wx bt bc br l a b c d n s k) (hm : 4 ≤ l.length) (hl : l.length ≤ 64) :
    Calls Try.prog 28 #[.int .i64 4, .pointer (some ⟨bt, 0, none⟩)] wx fun e w' => e = .returned (.int .i64 (ofV (l.take 4) : Nat)) ∧ DS W w' bt bc br (l.drop 4) a b c d n s k := take_d W wx bt bc br l a b c d n s k 4 H hm hl
theorem take_6 (W wx : World) (bt bc br : Nat) (l : List UInt8) (a b c d n s k : Int) (H : DS W wx bt bc br l a b c d n s k) (hm : 6 ≤ l.length) (hl : l.length ≤ 64) :
    Calls Try.prog 28 #[.int .i64 6, .pointer (some ⟨bt, 0, none⟩)] wx fun e w' => e = .returned (.int .i64 (ofV (l.take 6) : Nat)) ∧ DS W w' bt bc br (l.drop 6) a b c d n s k := take_d W wx bt bc br l a b c d n s k 6 H hm hl
theorem DS.grown {W wx w' : World} {bt bc br : Nat} {l : List UInt8} {a b c d n s k a' b' c' d' n' s' k' : Int} (H : DS W wx bt bc br l a b c d n s k) (hg : wx.grownBy w' (some bc)) (hc : CT w' bc a' b' c' d' n' s' k') : DS W w' bt bc br l a' b' c' d' n' s' k' := by
  have n0 := H.n0; have n1 := H.n1; have n2 := H.n2
  exact ⟨(hg.block bt (row_lt H.tx) (by simp; omega)).trans H.tx, hc, (hg.block br H.rs.lt (by simp; omega)).trans H.rs, below_own H.bel (by omega) hg, n0, n1, n2⟩
theorem DS.set0 {W wx : World} {bt bc br : Nat} {l : List UInt8} {a b c d n s k : Int} (H : DS W wx bt bc br l a b c d n s k) (v : Int) : DS W (wx.setCell ⟨bc, 0, none⟩ (.int .i64 v)) bt bc br l v b c d n s k :=
  H.grown (grown_set _ _ _ _) (heap_setCell_same wx bc 0 _ _ _ H.ct)
theorem DS.set1 {W wx : World} {bt bc br : Nat} {l : List UInt8} {a b c d n s k : Int} (H : DS W wx bt bc br l a b c d n s k) (v : Int) : DS W (wx.setCell ⟨bc, 1, none⟩ (.int .i64 v)) bt bc br l a v c d n s k :=
  H.grown (grown_set _ _ _ _) (heap_setCell_same wx bc 1 _ _ _ H.ct)
theorem DS.set2 {W wx : World} {bt bc br : Nat} {l : List UInt8} {a b c d n s k : Int} (H : DS W wx bt bc br l a b c d n s k) (v : Int) : DS W (wx.setCell ⟨bc, 2, none⟩ (.int .i64 v)) bt bc br l a b v d n s k :=
  H.grown (grown_set _ _ _ _) (heap_setCell_same wx bc 2 _ _ _ H.ct)
theorem DS.set3 {W wx : World} {bt bc br : Nat} {l : List UInt8} {a b c d n s k : Int} (H : DS W wx bt bc br l a b c d n s k) (v : Int) : DS W (wx.setCell ⟨bc, 3, none⟩ (.int .i64 v)) bt bc br l a b c v n s k :=
  H.grown (grown_set _ _ _ _) (heap_setCell_same wx bc 3 _ _ _ H.ct)
theorem DS.set4 {W wx : World} {bt bc br : Nat} {l : List UInt8} {a b c d n s k : Int} (H : DS W wx bt bc br l a b c d n s k) (v : Int) : DS W (wx.setCell ⟨bc, 4, none⟩ (.int .i64 v)) bt bc br l a b c d v s k :=
  H.grown (grown_set _ _ _ _) (heap_setCell_same wx bc 4 _ _ _ H.ct)
theorem DS.set5 {W wx : World} {bt bc br : Nat} {l : List UInt8} {a b c d n s k : Int} (H : DS W wx bt bc br l a b c d n s k) (v : Int) : DS W (wx.setCell ⟨bc, 5, none⟩ (.int .i64 v)) bt bc br l a b c d n v k :=
  H.grown (grown_set _ _ _ _) (heap_setCell_same wx bc 5 _ _ _ H.ct)
theorem DS.set6 {W wx : World} {bt bc br : Nat} {l : List UInt8} {a b c d n s k : Int} (H : DS W wx bt bc br l a b c d n s k) (v : Int) : DS W (wx.setCell ⟨bc, 6, none⟩ (.int .i64 v)) bt bc br l a b c d n s v :=
  H.grown (grown_set _ _ _ _) (heap_setCell_same wx bc 6 _ _ _ H.ct)

set_option maxHeartbeats 8000000 in
theorem decode_c (t : ByteArray) (place : Int) (w : World) :
    Calls Try.prog 16 #[.string t, .int .i64 place] w fun e w' => e = .returned (decV t.data.toList place) ∧ Below w.heap.size w w' := by
  have hmf : ∀ (fn : Fn) (first cap : Array Value) (w : World), (Instr.makeFunc fn first cap).run Try.prog w = .ok (.func fn first cap) w := fun _ _ _ _ => rfl
  go_enter Try.func16, Try.ntmps16
  obtain ⟨wb, hwb⟩ : ∃ wb, wb = w.alloc (.cells #[.int .i64 0, .int .i64 0, .int .i64 0, .int .i64 0, .int .i64 0, .int .i64 0, .int .i64 0] 25) := ⟨_, rfl⟩
  obtain ⟨br, hbr⟩ : ∃ br, br = w.heap.size := ⟨_, rfl⟩
  have HB : Hid (Below w.heap.size w wb) := by unfold Hid; rw [hwb]; exact (Below.refl _ w).alloc (Nat.le_refl _) _
  have HC : Hid (CT wb br 0 0 0 0 0 0 0) := by unfold Hid CT; rw [hwb, hbr]; exact heap_alloc_new w _
  have HN : Hid (w.heap.size ≤ br) := by unfold Hid; omega
  have HL : Hid (t.data.toList.length = t.size) := rfl
  by_cases h64 : t.size = 64
  · have hn : ((t.size : Int) = 64) := by omega
    obtain ⟨wt, hwt⟩ : ∃ wt, wt = wb.alloc (.cells #[.string t] 9) := ⟨_, rfl⟩
    obtain ⟨wc, hwc⟩ : ∃ wc, wc = wt.alloc (.cells #[.int .i64 0, .int .i64 0, .int .i64 0, .int .i64 0, .int .i64 0, .int .i64 0, .int .i64 0] 25) := ⟨_, rfl⟩
    obtain ⟨bt, hbt⟩ : ∃ bt, bt = w.heap.size + 1 := ⟨_, rfl⟩
    obtain ⟨bc, hbc⟩ : ∃ bc, bc = w.heap.size + 1 + 1 := ⟨_, rfl⟩
    have e1 : bt = wb.heap.size := by rw [hbt, hwb]; simp
    have e2 : bc = wt.heap.size := by rw [hbc, hwt, hwb]; simp
    have hb1 : Below wb.heap.size wb wt := by rw [hwt]; exact (Below.refl _ wb).alloc (Nat.le_refl _) _
    have hb2 : Below wt.heap.size wt wc := by rw [hwc]; exact (Below.refl _ wt).alloc (Nat.le_refl _) _
    have ht : wt.heap[bt]? = some (.cells #[.string t] 9 (0, 0)) := by rw [hwt, e1]; exact heap_alloc_new wb _
    have H0 : Hid (DS w wc bt bc br t.data.toList 0 0 0 0 0 0 0) :=
      ⟨(hb2.block bt (row_lt ht)).trans ht, by unfold CT; rw [hwc, e2]; exact heap_alloc_new wt _, (HC.out.below hb1).below hb2, HB.out.trans ((hb1.trans (hb2.mono hb1.size)).mono HB.out.size), HN.out, by omega, by omega⟩
    clear e1 e2 hb1 hb2 ht
    go_wp2_with fail
    rw [← hwb, ← hwt, ← hwc, ← hbc, ← hbt, ← hbr]
    clear hwb hwt hwc hbt hbc hbr HB HC HN hn
    have h64' : t.data.toList.length = 64 := h64
    have HTL : Hid (∀ l' : List UInt8, (⟨l'.toArray⟩ : ByteArray) = t → l' = t.data.toList) := fun l' h => by rw [← h]
    have HTM : Hid (t = ⟨t.data.toList.toArray⟩) := rfl
    obtain ⟨l, hl⟩ : ∃ l, l = t.data.toList := ⟨_, rfl⟩
    rw [← hl] at H0 h64' HTL HTM
    have HLT : Hid (t.data.toList = l) := hl.symm
    clear hl HL
    refine (take_4 _ _ _ _ _ _ _ _ _ _ _ _ _ H0.out (by omega) (by omega)).mono ?_
    rintro e w1 ⟨rfl, hd1⟩
    have H1 := Lib.hid hd1
    have f1 := frozen_of_row w1 bc 4 _ _ hd1.ct
    have c1 := hd1.ct.cell.2.2.2.2.1
    clear hd1 H0
    go_wp2_with fail
    have H2 := Lib.hid (H1.out.set4 (ofV (l.take 4) : Nat))
    clear f1 c1 H1
    generalize w1.setCell ⟨bc, 4, none⟩ _ = w2 at *
    refine (take_4 _ _ _ _ _ _ _ _ _ _ _ _ _ H2.out (by rw [List.length_drop]; omega) (by rw [List.length_drop]; omega)).mono ?_
    rintro e w3 ⟨rfl, hd3⟩
    simp only [List.drop_drop, Nat.reduceAdd] at hd3
    have H3 := Lib.hid hd3
    clear hd3 H2
    go_wp2_with fail
    refine (take_4 _ _ _ _ _ _ _ _ _ _ _ _ _ H3.out (by simp only [List.length_drop]; omega) (by simp only [List.length_drop]; omega)).mono ?_
    rintro e w4 ⟨rfl, hd4⟩
    simp only [List.drop_drop, Nat.reduceAdd] at hd4
    have H4 := Lib.hid hd4
    clear hd4 H3
    go_wp2_with fail
    refine (take_4 _ _ _ _ _ _ _ _ _ _ _ _ _ H4.out (by simp only [List.length_drop]; omega) (by simp only [List.length_drop]; omega)).mono ?_
    rintro e w5 ⟨rfl, hd5⟩
    simp only [List.drop_drop, Nat.reduceAdd] at hd5
    have H5 := Lib.hid hd5
    clear hd5 H4
    go_wp2_with fail
    refine (take_4 _ _ _ _ _ _ _ _ _ _ _ _ _ H5.out (by simp only [List.length_drop]; omega) (by simp only [List.length_drop]; omega)).mono ?_
    rintro e w6 ⟨rfl, hd6⟩
    simp only [List.drop_drop, Nat.reduceAdd] at hd6
    have H6 := Lib.hid hd6
    obtain ⟨c0, c1, c2, c3, c4, c5, c6⟩ := hd6.ct.cell
    have f0 := frozen_of_row w6 bc 0 _ _ hd6.ct
    have f1 := frozen_of_row w6 bc 1 _ _ hd6.ct
    have f2 := frozen_of_row w6 bc 2 _ _ hd6.ct
    have f3 := frozen_of_row w6 bc 3 _ _ hd6.ct
    clear hd6 H5
    go_wp2_with fail
    have H7 := Lib.hid ((((H6.out.set0 (ofV ((l.drop 4).take 4) : Nat)).set1 (ofV ((l.drop 8).take 4) : Nat)).set2 (ofV ((l.drop 12).take 4) : Nat)).set3 (ofV ((l.drop 16).take 4) : Nat))
    clear c0 c1 c2 c3 c4 c5 c6 f0 f1 f2 f3 H6
    generalize (((w6.setCell ⟨bc, 0, none⟩ (.int .i64 (ofV ((l.drop 4).take 4) : Nat))).setCell ⟨bc, 1, none⟩ (.int .i64 (ofV ((l.drop 8).take 4) : Nat))).setCell ⟨bc, 2, none⟩ (.int .i64 (ofV ((l.drop 12).take 4) : Nat))).setCell ⟨bc, 3, none⟩ (.int .i64 (ofV ((l.drop 16).take 4) : Nat)) = w7 at *
    refine (take_6 _ _ _ _ _ _ _ _ _ _ _ _ _ H7.out (by simp only [List.length_drop]; omega) (by simp only [List.length_drop]; omega)).mono ?_
    rintro e w8 ⟨rfl, hd8⟩
    simp only [List.drop_drop, Nat.reduceAdd] at hd8
    have H8 := Lib.hid hd8
    clear hd8 H7
    go_wp2_with fail
    refine (take_6 _ _ _ _ _ _ _ _ _ _ _ _ _ H8.out (by simp only [List.length_drop]; omega) (by simp only [List.length_drop]; omega)).mono ?_
    rintro e w9 ⟨rfl, hd9⟩
    simp only [List.drop_drop, Nat.reduceAdd] at hd9
    have H9 := Lib.hid hd9
    obtain ⟨c0, c1, c2, c3, c4, c5, c6⟩ := hd9.ct.cell
    have f5 := frozen_of_row w9 bc 5 _ _ hd9.ct
    have f6 := frozen_of_row w9 bc 6 _ _ hd9.ct
    clear hd9 H8
    go_wp2_with fail
    have HA := Lib.hid ((H9.out.set5 (ofV ((l.drop 20).take 6) : Nat)).set6 (ofV ((l.drop 26).take 6) : Nat))
    clear c0 c1 c2 c3 c4 c5 c6 f5 f6 H9
    generalize (w9.setCell ⟨bc, 5, none⟩ (.int .i64 (ofV ((l.drop 20).take 6) : Nat))).setCell ⟨bc, 6, none⟩ (.int .i64 (ofV ((l.drop 26).take 6) : Nat)) = wA at *
    have e0 : (ofV (l.take 4) : Int) = bn l 0 4 := rfl
    have e1 : (ofV ((l.drop 4).take 4) : Int) = bn l 4 4 := rfl
    have e2 : (ofV ((l.drop 8).take 4) : Int) = bn l 8 4 := rfl
    have e3 : (ofV ((l.drop 12).take 4) : Int) = bn l 12 4 := rfl
    have e4 : (ofV ((l.drop 16).take 4) : Int) = bn l 16 4 := rfl
    have e5 : (ofV ((l.drop 20).take 6) : Int) = bn l 20 6 := rfl
    have e6 : (ofV ((l.drop 26).take 6) : Int) = bn l 26 6 := rfl
    rw [e0, e1, e2, e3, e4, e5, e6] at HA ⊢
    clear e0 e1 e2 e3 e4 e5 e6
    have HVN : Hid (okSec l place (bn l 4 4) (bn l 8 4) (bn l 12 4) (bn l 16 4) (bn l 0 4) (bn l 20 6) (bn l 26 6) = false → decV l place = .tuple #[.agg #[.int .i64 0, .int .i64 0, .int .i64 0, .int .i64 0, .int .i64 0, .int .i64 0, .int .i64 0], .int .i64 223]) := fun h => by
      unfold decV decR; rw [if_neg (fun h2 => by rw [h] at h2; exact Bool.noConfusion h2.2)]; rfl
    have HVY : Hid (okSec l place (bn l 4 4) (bn l 8 4) (bn l 12 4) (bn l 16 4) (bn l 0 4) (bn l 20 6) (bn l 26 6) = true → decV l place = .tuple #[.agg #[.int .i64 (bn l 4 4), .int .i64 (bn l 8 4), .int .i64 (bn l 12 4), .int .i64 (bn l 16 4), .int .i64 (bn l 0 4), .int .i64 (bn l 20 6), .int .i64 (bn l 26 6)], .int .i64 0]) := fun h => by
      unfold decV decR; rw [if_pos ⟨h64', h⟩]; rfl
    generalize bn l 4 4 = a, bn l 8 4 = b, bn l 12 4 = c, bn l 16 4 = d, bn l 0 4 = n, bn l 20 6 = s, bn l 26 6 = k at *
    clear h64 h64' hmf
    refine (encode_c a b c d n s k wA).mono ?_
    rintro e wB ⟨rfl, hbB⟩
    have HB := Lib.hid (HA.out.below hbB)
    clear hbB HA
    have hrs := HB.out.rs
    have hcs := HB.out.ct.cell
    obtain ⟨c0, c1, c2, c3, c4, c5, c6⟩ := hcs
    cases hok : okCtl a b c d n s k
    · rw [encV_no hok]
      have HV := Lib.hid (HVN.out (by unfold okSec; rw [hok]; rfl))
      clear hok HVN HVY
      go_wp2_with (refine wpList_st_row rfl 25 _ _ rfl br rfl _ rfl hrs (by kernel_rfl) rfl (by simp [Value.oneCell']) (fun w2 hp2 hg2 => ?_); have P2 := Lib.hid hp2; have B2 := Lib.hid (below_own HB.out.bel HB.out.n0 hg2); clear hp2 hg2)
      refine ret_cell rfl br _ _ _ _ rfl P2.out Try.underlying25 rfl (by kernel_rfl) rfl ?_
      rw [HLT.out, HV.out]
      exact ⟨rfl, B2.out⟩
    · rw [encV_yes hok]
      obtain ⟨z, hz⟩ : ∃ z : ByteArray, z = ⟨(encL a b c d n s k).toArray⟩ := ⟨_, rfl⟩
      rw [← hz]
      by_cases hzt : z = t
      · have hel := HTL.out _ (hz.symm.trans hzt)
        subst hzt
        cases hp : (bits BinOp.and IntKind.i64 n 1 == place)
        · have HV := Lib.hid (HVN.out (by unfold okSec; rw [hp]; simp))
          have hp' : (bits BinOp.and IntKind.i64 n 1 != place) = true := by rw [bne, hp]; rfl
          clear hok HVN HVY hz hel hp
          go_wp2_with (refine wpList_st_row rfl 25 _ _ rfl br rfl _ rfl hrs (by kernel_rfl) rfl (by simp [Value.oneCell']) (fun w2 hp2 hg2 => ?_); have P2 := Lib.hid hp2; have B2 := Lib.hid (below_own HB.out.bel HB.out.n0 hg2); clear hp2 hg2)
          refine ret_cell rfl br _ _ _ _ rfl P2.out Try.underlying25 rfl (by kernel_rfl) rfl ?_
          rw [HLT.out, HV.out]
          exact ⟨rfl, B2.out⟩
        · have HV := Lib.hid (HVY.out (by unfold okSec; rw [hok, hp, hel]; simp))
          have hp' : (bits BinOp.and IntKind.i64 n 1 != place) = false := by rw [bne, hp]; rfl
          clear hok HVN HVY hz hel hp
          go_wp2_with (refine wpList_st_row rfl 25 _ _ rfl br rfl _ rfl hrs (by kernel_rfl) rfl (by simp [Value.oneCell']) (fun w2 hp2 hg2 => ?_); have P2 := Lib.hid hp2; have B2 := Lib.hid (below_own HB.out.bel HB.out.n0 hg2); clear hp2 hg2)
          refine ret_cell rfl br _ _ _ _ rfl P2.out Try.underlying25 rfl (by kernel_rfl) rfl ?_
          rw [HLT.out, HV.out]
          exact ⟨rfl, B2.out⟩
      · have hne : ¬ encL a b c d n s k = l := fun h => hzt (by rw [hz, h]; exact HTM.out.symm)
        have HV := Lib.hid (HVN.out (by unfold okSec; rw [decide_eq_false hne]; simp))
        have hzn : ¬ z.toList = t.toList := fun h => hzt (by rw [ByteArray.toList_eq, ByteArray.toList_eq] at h; exact ByteArray.ext (Array.ext' h))
        clear hok HVN HVY hz hne
        go_wp2_with (refine wpList_st_row rfl 25 _ _ rfl br rfl _ rfl hrs (by kernel_rfl) rfl (by simp [Value.oneCell']) (fun w2 hp2 hg2 => ?_); have P2 := Lib.hid hp2; have B2 := Lib.hid (below_own HB.out.bel HB.out.n0 hg2); clear hp2 hg2)
        refine ret_cell rfl br _ _ _ _ rfl P2.out Try.underlying25 rfl (by kernel_rfl) rfl ?_
        rw [HLT.out, HV.out]
        exact ⟨rfl, B2.out⟩
  · have hn : ¬ ((t.size : Int) = 64) := by omega
    have HV : Hid (decV t.data.toList place = .tuple #[.agg #[.int .i64 0, .int .i64 0, .int .i64 0, .int .i64 0, .int .i64 0, .int .i64 0, .int .i64 0], .int .i64 223]) := by
      unfold Hid decV decR; rw [if_neg (fun h => h64 (by rw [← HL.out]; exact h.1))]; rfl
    go_wp2_with fail
    rw [← hwb]
    refine ret_cell rfl br _ _ _ _ (by rw [hbr]; rfl) HC.out Try.underlying25 rfl (by kernel_rfl) rfl ?_
    rw [HV.out]
    exact ⟨rfl, HB.out⟩
end Go.Proofs.Ytbhiijjnobcmoaa
