/- Checks: the chapter's examples. -/
import Derived.Test.YtbhiijjnobcmoaaCkE
namespace Go.Proofs.Ytbhiijjnobcmoaa
open Go.RowKit
set_option linter.unusedSimpArgs false
set_option maxRecDepth 100000

def S0 : List UInt8 := encL 4 16 160 4 1 1 0
theorem e_small : encV 4 16 160 4 1 1 0 = .tuple #[.string ⟨S0.toArray⟩, .int .i64 0] := encV_yes (by decide)
theorem S0_eq : S0 = [0, 0, 0, 1, 0, 0, 0, 4, 0, 0, 0, 16, 0, 0, 0, 160, 0, 0, 0, 4, 0, 0, 0, 0, 0, 1, 0, 0, 0, 0, 0, 0, 0, 0, 0, 0, 0, 0, 0, 0, 0, 0, 0, 0, 0, 0, 0, 0, 0, 0, 0, 0, 0, 0, 0, 0, 0, 0, 0, 0, 0, 0, 0, 1] := by decide
theorem d_small1 : decV S0 1 = .tuple #[.agg #[.int .i64 4, .int .i64 16, .int .i64 160, .int .i64 4, .int .i64 1, .int .i64 1, .int .i64 0], .int .i64 0] := by
  have h : decR S0 1 = (0, [4, 16, 160, 4, 1, 1, 0]) := by rw [S0_eq]; decide
  unfold decV; rw [h]; rfl
theorem d_small0 : decV S0 0 = .tuple #[.agg #[.int .i64 0, .int .i64 0, .int .i64 0, .int .i64 0, .int .i64 0, .int .i64 0, .int .i64 0], .int .i64 223] := by
  have h : decR S0 0 = (223, [0, 0, 0, 0, 0, 0, 0]) := by rw [S0_eq]; decide
  unfold decV; rw [h]; rfl
theorem l_small : layV 4 16 160 4 = .tuple #[.agg #[.int .i64 2, .int .i64 162, .int .i64 194], .int .i64 0] := by
  have h : okCfg 4 16 160 4 = true := by decide
  unfold layV; rw [if_pos h]; rfl

set_option maxHeartbeats 4000000 in
theorem awake_c (w : World) : Calls Try.prog 15 #[] w fun e w' => e = .returned (.bool true) ∧ Below w.heap.size w w' := by
  have HT : Hid (∃ t : ByteArray, t = ⟨S0.toArray⟩) := ⟨_, rfl⟩
  go_enter Try.func15, Try.ntmps15
  go_wp2_with fail
  refine (small_c w).mono ?_
  rintro e w1 ⟨rfl, hb1⟩
  have D1 := Lib.hid hb1
  clear hb1
  go_wp2_with fail
  refine (encode_c 4 16 160 4 1 1 0 w1).mono ?_
  rintro e w2 ⟨rfl, hb2⟩
  have D2 := Lib.hid (D1.out.trans (hb2.mono D1.out.size))
  clear hb2 D1
  rw [e_small]
  obtain ⟨t, ht⟩ := HT.out
  have HTT : Hid (t.data.toList = S0) := by unfold Hid; rw [ht]
  have HT3 : Hid (∀ h : 3 < t.size, ((t[3]'h).toNat : Int) = 1) := fun h => by subst ht; rfl
  have HT63 : Hid (∀ h : 63 < t.size, ((t[63]'h).toNat : Int) = 1) := fun h => by subst ht; rfl
  rw [← ht]
  clear ht HT
  go_wp2_with fail
  refine (decode_c t 1 w2).mono ?_
  rintro e w3 ⟨rfl, hb3⟩
  rw [HTT.out, d_small1]
  have D3 := Lib.hid (D2.out.trans (hb3.mono D2.out.size))
  clear hb3 D2
  have C4 : Hid (CT (w3.alloc (.cells #[.int .i64 4, .int .i64 16, .int .i64 160, .int .i64 4, .int .i64 1, .int .i64 1, .int .i64 0] 25)) w3.heap.size 4 16 160 4 1 1 0) := heap_alloc_new w3 _
  have D4 : Hid (Below w.heap.size w (w3.alloc (.cells #[.int .i64 4, .int .i64 16, .int .i64 160, .int .i64 4, .int .i64 1, .int .i64 1, .int .i64 0] 25))) := D3.out.alloc D3.out.size _
  go_wp2_with fail
  generalize w3.alloc (.cells #[.int .i64 4, .int .i64 16, .int .i64 160, .int .i64 4, .int .i64 1, .int .i64 1, .int .i64 0] 25) = w4 at *
  generalize w3.heap.size = b3 at *
  clear D3
  refine (decode_c t 0 w4).mono ?_
  rintro e w5 ⟨rfl, hb5⟩
  rw [HTT.out, d_small0]
  have D5 := Lib.hid (D4.out.trans (hb5.mono D4.out.size))
  have C5 := Lib.hid (C4.out.below hb5)
  clear hb5 D4 C4
  have hb6 := (Below.refl w5.heap.size w5).alloc (Nat.le_refl _) (.cells #[.int .i64 0, .int .i64 0, .int .i64 0, .int .i64 0, .int .i64 0, .int .i64 0, .int .i64 0] 25)
  have D6 := Lib.hid (D5.out.trans (hb6.mono D5.out.size))
  have C6 := Lib.hid (C5.out.below hb6)
  clear hb6 
  go_wp2_with fail
  generalize w5.alloc (.cells #[.int .i64 0, .int .i64 0, .int .i64 0, .int .i64 0, .int .i64 0, .int .i64 0, .int .i64 0] 25) = w6 at *
  clear D5 C5
  refine (small_c w6).mono ?_
  rintro e w7 ⟨rfl, hb7⟩
  have D7 := Lib.hid (D6.out.trans (hb7.mono D6.out.size))
  have C7 := Lib.hid (C6.out.below hb7)
  clear hb7 D6 C6
  go_wp2_with fail
  refine (layout_c 4 16 160 4 w7).mono ?_
  rintro e w8 ⟨rfl, hb8⟩
  rw [l_small]
  have D8 := Lib.hid (D7.out.trans (hb8.mono D7.out.size))
  have C8 := Lib.hid (C7.out.below hb8)
  clear hb8 D7 C7
  have HSZ : Hid (t.size = 64) := by
    unfold Hid
    show t.data.size = 64
    rw [← Array.length_toList, HTT.out, S0_eq]; rfl
  have hsz : (t.size : Int) = 64 := by rw [HSZ.out]; rfl
  obtain ⟨c0, c1, c2, c3, c4, c5, c6⟩ := C8.out.cell
  have cc5 : (w8.alloc (.cells #[.int .i64 2, .int .i64 162, .int .i64 194] 31)).cell? ⟨b3, 5, none⟩ = some (.int .i64 1) := by
    exact bel_at ((Below.refl w8.heap.size w8).alloc (Nat.le_refl _) _) c5
  have D9 : Hid (Below w.heap.size w (w8.alloc (.cells #[.int .i64 2, .int .i64 162, .int .i64 194] 31))) := D8.out.alloc D8.out.size _
  have t3 := HT3.out (by rw [HSZ.out]; decide)
  have t63 := HT63.out (by rw [HSZ.out]; decide)
  clear c0 c1 c2 c3 c4 c5 c6
  have e10 : (w8.alloc (.cells #[.int .i64 2, .int .i64 162, .int .i64 194] 31)).heap.size = w8.heap.size + 1 := by simp
  have hnew := heap_alloc_new (w8.alloc (.cells #[.int .i64 2, .int .i64 162, .int .i64 194] 31)) (.cells #[.int .i64 3, .int .i64 40, .int .i64 4, .int .i64 0] 59)
  rw [e10] at hnew
  have HNEW := Lib.hid hnew
  have D10 := Lib.hid (D9.out.alloc D9.out.size (.cells #[.int .i64 3, .int .i64 40, .int .i64 4, .int .i64 0] 59))
  clear hnew e10
  go_wp2_with fail
  generalize (w8.alloc (.cells #[.int .i64 2, .int .i64 162, .int .i64 194] 31)).alloc (.cells #[.int .i64 3, .int .i64 40, .int .i64 4, .int .i64 0] 59) = wx at *
  generalize w8.heap.size + 1 = bx at *
  refine (redo_c 50 (some ⟨bx, 0, none⟩) 2 2 (fun i => if i = 0 then 3 else 4) (fun i => if i = 0 then 40 else 0) wx (by omega) ?_).mono ?_
  · intro i hi
    rcases (by omega : i = 0 ∨ i = 1) with rfl | rfl
    · exact ⟨bx, 0, rfl, by simp only [World.cell?, HNEW.out]; rfl, by simp only [World.cell?, HNEW.out]; rfl⟩
    · exact ⟨bx, 0, rfl, by simp only [World.cell?, HNEW.out]; rfl, by simp only [World.cell?, HNEW.out]; rfl⟩
  rintro e wy ⟨rfl, hby⟩
  have hr : redoN 50 (fun i => if i = 0 then 40 else 0) 2 = 40 := by decide
  rw [hr]
  have D11 := Lib.hid (D10.out.trans (hby.mono D10.out.size))
  clear hby hr
  go_wp2_with fail
  go_ret
  exact ⟨rfl, D11.out⟩
end Go.Proofs.Ytbhiijjnobcmoaa
