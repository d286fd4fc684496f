/- Statuses: pages that are the same. -/
import Derived.Test.YtpmhcpphbilokaaClogK
import Derived.Deep.QuietTactic
namespace Go.Proofs.Ytpmhcpphbilokaa
open Go.RowKit
set_option linter.unusedSimpArgs false
set_option maxRecDepth 100000
attribute [local irreducible] wpQuiet

set_option maxHeartbeats 1000000 in
theorem equal_c (ao ao' : Option Addr) (n cap cap' : Nat) (S S' : Nat → ByteArray) (w : World) (hn : n ≤ 9223372036854775807) (h : StrsIn w ao n S) (h' : StrsIn w ao' n S') (he : ∀ i, i < n → S i = S' i) :
    Calls Try.prog 37 #[.slice ao n cap, .slice ao' n cap'] w fun e w' => e = .returned (.bool true) ∧ Below w.heap.size w w' := by
  have H := Lib.hid h
  have H' := Lib.hid h'
  have HE := Lib.hid he
  clear h h' he
  go_enter Try.func37, Try.ntmps37
  go_wp2_with fail
  go_loopw [13] (fun i wr => ∃ k : Nat, k ≤ n ∧ i = .int .i64 k ∧ Hid (Below w.heap.size w wr)) (fun i _ => n - (intOf i).toNat)
  case atStart => exact ⟨0, Nat.zero_le _, rfl, Below.refl _ _⟩
  case round =>
    obtain ⟨k, hk, rfl, HB⟩ := hrel
    by_cases hlt : k < n
    · obtain ⟨b, off, rfl, hc, _⟩ := H.out k hlt
      obtain ⟨b', off', rfl, hc', _⟩ := H'.out k hlt
      rw [← HE.out k hlt] at hc'
      have d1 := bel_at HB.out hc
      have d2 := bel_at HB.out hc'
      clear hc hc'
      have hself : ((S k).toList == (S k).toList) = true := by simp
      go_upto_region 6 with (fail)
      go_quiet (fail)
      go_wp2_with fail
      go_roundw
      case rel => exact ⟨k + 1, by omega, by go_num, HB.out.trans ((below_drewN _ _).mono HB.out.size)⟩
      case measure => simp [intOf]; omega
    · go_wp2_with fail
      go_ret
      exact ⟨rfl, HB.out⟩

set_option maxHeartbeats 2000000 in
theorem same_c (lsn : Int) (ao ao' : Option Addr) (S S' : Nat → ByteArray) (w : World) (h : StrsIn w ao 2 S) (h' : StrsIn w ao' 2 S') (he : ∀ i, i < 2 → S i = S' i) :
    Calls Try.prog 22 #[.agg #[.int .i64 lsn, .int .i64 1, .int .i64 0, .int .i64 0, .string ⟨#[]⟩, .slice ao 2 2], .agg #[.int .i64 lsn, .int .i64 1, .int .i64 0, .int .i64 0, .string ⟨#[]⟩, .slice ao' 2 2]] w fun e w' => e = .returned (.bool true) ∧ Below w.heap.size w w' := by
  obtain ⟨wb, hwb⟩ : ∃ wb, wb = w.alloc (.cells #[.int .i64 lsn, .int .i64 1, .int .i64 0, .int .i64 0, .string ⟨#[]⟩, .slice ao 2 2] 25) := ⟨_, rfl⟩
  obtain ⟨wc, hwc⟩ : ∃ wc, wc = wb.alloc (.cells #[.int .i64 lsn, .int .i64 1, .int .i64 0, .int .i64 0, .string ⟨#[]⟩, .slice ao' 2 2] 25) := ⟨_, rfl⟩
  obtain ⟨b1, hb1⟩ : ∃ b1, b1 = w.heap.size := ⟨_, rfl⟩
  obtain ⟨b2, hb2⟩ : ∃ b2, b2 = w.heap.size + 1 := ⟨_, rfl⟩
  have P1 : Hid (PK wc b1 lsn 1 0 0 ⟨#[]⟩ (.slice ao 2 2)) := by rw [hwc, hwb, hb1]; exact (PK.new w _ _ _ _ _ _).below ((Below.refl _ _).alloc (Nat.le_refl _) _)
  have e2 : b2 = wb.heap.size := by rw [hb2, hwb]; simp
  have P2 : Hid (PK wc b2 lsn 1 0 0 ⟨#[]⟩ (.slice ao' 2 2)) := by rw [hwc, e2]; exact PK.new wb _ _ _ _ _ _
  have HB : Hid (Below w.heap.size w wc) := by
    have q : Below w.heap.size w wb := by rw [hwb]; exact (Below.refl _ w).alloc (Nat.le_refl _) _
    unfold Hid; rw [hwc]; exact q.alloc q.size _
  have CE := Lib.hid (fun w' (a : StrsIn w' ao 2 S) (b : StrsIn w' ao' 2 S') => equal_c ao ao' 2 2 2 S S' w' (by omega) a b he)
  have HS := Lib.hid (h.below HB.out rfl)
  have HS' := Lib.hid (h'.below HB.out rfl)
  have HWB := Lib.hid hwb
  have HWC := Lib.hid hwc
  have HB1 := Lib.hid hb1
  have HB2 := Lib.hid hb2
  clear hwb hwc hb1 hb2 h h' he e2
  go_enter Try.func22, Try.ntmps22
  have c := P1.out.cell
  have d := P2.out.cell
  rw [HWC.out, HWB.out, HB1.out] at c
  rw [HWC.out, HWB.out, HB2.out] at d
  obtain ⟨c0, c1, c2, c3, c4, c5⟩ := c
  obtain ⟨d0, d1, d2, d3, d4, d5⟩ := d
  go_wp2_with fail
  clear c0 c1 c2 c3 c4 c5 d0 d1 d2 d3 d4 d5
  rw [← HWB.out, ← HWC.out, ← HB2.out, ← HB1.out]
  refine (CE.out wc HS.out HS'.out).mono ?_
  rintro e w1 ⟨rfl, hb⟩
  have Q1 := Lib.hid (P1.out.below hb)
  have Q2 := Lib.hid (P2.out.below hb)
  have HB3 := Lib.hid (HB.out.trans (hb.mono HB.out.size))
  have HNE : Hid (b1 ≠ b2) := by unfold Hid; rw [HB1.out, HB2.out]; omega
  have HG : Hid (w.heap.size ≤ b1 ∧ w.heap.size ≤ b2) := by unfold Hid; rw [HB1.out, HB2.out]; omega
  clear hb CE HS HS' P1 P2 HB HWB HWC HB1 HB2
  have e1 : PK (w1.setCell ⟨b1, 5, none⟩ (.slice none 0 0)) b1 lsn 1 0 0 ⟨#[]⟩ (.slice none 0 0) := heap_setCell_same w1 b1 5 _ _ _ Q1.out
  have e2 : PK (w1.setCell ⟨b1, 5, none⟩ (.slice none 0 0)) b2 lsn 1 0 0 ⟨#[]⟩ (.slice ao' 2 2) := Q2.out.grown (grown_set w1 b1 5 _) (by have := HNE.out; simp; omega)
  have g1 : PK ((w1.setCell ⟨b1, 5, none⟩ (.slice none 0 0)).setCell ⟨b2, 5, none⟩ (.slice none 0 0)) b2 lsn 1 0 0 ⟨#[]⟩ (.slice none 0 0) := heap_setCell_same _ b2 5 _ _ _ e2
  have g2 : PK ((w1.setCell ⟨b1, 5, none⟩ (.slice none 0 0)).setCell ⟨b2, 5, none⟩ (.slice none 0 0)) b1 lsn 1 0 0 ⟨#[]⟩ (.slice none 0 0) := e1.grown (grown_set _ b2 5 _) (by have := HNE.out; simp; omega)
  have HB5 : Hid (Below w.heap.size w ((w1.setCell ⟨b1, 5, none⟩ (.slice none 0 0)).setCell ⟨b2, 5, none⟩ (.slice none 0 0))) := below_own (below_own HB3.out HG.out.1 (grown_set w1 b1 5 _)) HG.out.2 (grown_set _ b2 5 _)
  have u5 := Q1.out.cell.2.2.2.2.2
  have v5 := e2.cell.2.2.2.2.2
  have uf := Q1.out.fr 5
  have vf := e2.fr 5
  obtain ⟨c0, c1, c2, c3, c4, c5⟩ := g2.cell
  obtain ⟨d0, d1, d2, d3, d4, d5⟩ := g1.cell
  clear e1 e2 g1 g2
  go_wp2_with fail
  go_ret
  exact ⟨rfl, HB5.out⟩
end Go.Proofs.Ytpmhcpphbilokaa
