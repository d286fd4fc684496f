/- Pages: their size, and whether they fit, where there are two items. -/
import Derived.Test.YtpmhcpphbilokaaPgA
namespace Go.Proofs.Ytpmhcpphbilokaa
open Go.RowKit
set_option linter.unusedSimpArgs false
set_option maxRecDepth 100000

set_option maxHeartbeats 2000000 in
theorem psize_c (ao : Option Addr) (S : Nat → ByteArray) (w : World) (hs : StrsIn w ao 2 S) (h0 : (S 0).size ≤ 10) (h1 : (S 1).size ≤ 256) :
    Calls Try.prog 57 #[.agg #[.int .i64 0, .int .i64 1, .int .i64 0, .int .i64 0, .string ⟨#[]⟩, .slice ao 2 2]] w fun e w' => e = .returned (.int .i64 (24 + (S 0).size + (S 1).size : Nat)) ∧ Below w.heap.size w w' := by
  obtain ⟨b, off, rfl, hc0, _⟩ := hs 0 (by omega)
  have hc1 := itAt hs (i := 1) (by omega)
  rw [Nat.add_zero] at hc0
  have hb := (Below.refl w.heap.size w).alloc (Nat.le_refl _) (.cells #[.int .i64 0, .int .i64 1, .int .i64 0, .int .i64 0, .string ⟨#[]⟩, .slice (some ⟨b, off, none⟩) 2 2] 25)
  have HB := Lib.hid hb
  have d0 := bel_at hb hc0
  have d1 := bel_at hb hc1
  have P := PK.new w 0 1 0 0 ⟨#[]⟩ (.slice (some ⟨b, off, none⟩) 2 2)
  obtain ⟨c0, c1, c2, c3, c4, c5⟩ := P.cell
  clear hb hc0 hc1 hs P
  go_enter Try.func57, Try.ntmps57
  go_wp2_with fail
  generalize (w.alloc (.cells #[.int .i64 0, .int .i64 1, .int .i64 0, .int .i64 0, .string ⟨#[]⟩, .slice (some ⟨b, off, none⟩) 2 2] 25)) = wb at *
  obtain ⟨s0, hs0⟩ : ∃ s0, s0 = S 0 := ⟨_, rfl⟩
  obtain ⟨s1, hs1⟩ : ∃ s1, s1 = S 1 := ⟨_, rfl⟩
  rw [← hs0] at d0 h0
  rw [← hs1] at d1 h1
  have E0 := Lib.hid hs0
  have E1 := Lib.hid hs1
  clear hs0 hs1
  clear c0 c1 c2 c3 c4 c5
  go_loop [3, 13] (fun a i => (a = .int .i64 20 ∧ i = .int .i64 0) ∨ (a = .int .i64 (22 + s0.size : Nat) ∧ i = .int .i64 1) ∨ (a = .int .i64 (24 + s0.size + s1.size : Nat) ∧ i = .int .i64 2)) (fun _ i => 2 - (intOf i).toNat)
  case atStart => exact .inl ⟨rfl, rfl⟩
  case round =>
    rcases hrel with ⟨rfl, rfl⟩ | ⟨rfl, rfl⟩ | ⟨rfl, rfl⟩
    · go_wp2_with fail
      go_round
      case rel => exact .inr (.inl ⟨congrArg (Value.int .i64) (by omega), rfl⟩)
      case measure => decide
    · go_wp2_with fail
      go_round
      case rel => exact .inr (.inr ⟨congrArg (Value.int .i64) (by omega), rfl⟩)
      case measure => decide
    · go_wp2_with fail
      go_ret
      rw [← E0.out, ← E1.out]
      exact ⟨congrArg Ending.returned (congrArg (Value.int .i64) (by omega)), HB.out⟩

set_option maxHeartbeats 2000000 in
theorem fits_c (ao : Option Addr) (S : Nat → ByteArray) (w : World) (hs : StrsIn w ao 2 S) (h0 : (S 0).size ≤ 10) (h1 : (S 1).size ≤ 256) :
    Calls Try.prog 38 #[.agg #[.int .i64 0, .int .i64 1, .int .i64 0, .int .i64 0, .string ⟨#[]⟩, .slice ao 2 2]] w fun e w' => e = .returned (.bool true) ∧ Below w.heap.size w w' := by
  have hb := (Below.refl w.heap.size w).alloc (Nat.le_refl _) (.cells #[.int .i64 0, .int .i64 1, .int .i64 0, .int .i64 0, .string ⟨#[]⟩, .slice ao 2 2] 25)
  have HB := Lib.hid hb
  have HS := Lib.hid (hs.below hb rfl)
  have P := PK.new w 0 1 0 0 ⟨#[]⟩ (.slice ao 2 2)
  obtain ⟨c0, c1, c2, c3, c4, c5⟩ := P.cell
  clear hb hs P
  go_enter Try.func38, Try.ntmps38
  go_wp2_with fail
  generalize (w.alloc (.cells #[.int .i64 0, .int .i64 1, .int .i64 0, .int .i64 0, .string ⟨#[]⟩, .slice ao 2 2] 25)) = wb at *
  refine (psize_c ao S wb HS.out h0 h1).mono ?_
  rintro e w2 ⟨rfl, hb2⟩
  have HB2 := Lib.hid (HB.out.trans (hb2.mono HB.out.size))
  have hz : decide (((24 + (S 0).size + (S 1).size : Nat) : Int) ≤ 512) = true := decide_eq_true (by omega)
  clear c0 c1 c2 c3 c4 c5 hb2
  generalize 24 + (S 0).size + (S 1).size = z at *
  go_wp2_with fail
  go_ret
  exact ⟨rfl, HB2.out⟩
end Go.Proofs.Ytpmhcpphbilokaa
