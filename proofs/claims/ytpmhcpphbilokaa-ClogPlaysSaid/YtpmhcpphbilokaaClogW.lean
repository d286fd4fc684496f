/- Statuses: the reference says that pages are the same; pages that the reference changes. -/
import Derived.Test.YtpmhcpphbilokaaClogV
import Derived.Test.YtpmhcpphbilokaaClogO
namespace Go.Proofs.Ytpmhcpphbilokaa
open Go.RowKit
set_option linter.unusedSimpArgs false
set_option maxRecDepth 100000
attribute [local irreducible] wpQuiet

set_option maxHeartbeats 2000000 in
theorem rsame_c (lsn k : Int) (ao ao' : Option Addr) (n : Nat) (S S' : Nat → ByteArray) (w : World) (hn : n ≤ 2) (h : StrsIn w ao n S) (h' : StrsIn w ao' n S') (he : ∀ i, i < n → S i = S' i) :
    Calls Try.prog 10 #[.agg #[.int .i64 lsn, .int .i64 k, .int .i64 0, .int .i64 0, .string ⟨#[]⟩, .slice ao n n], .agg #[.int .i64 lsn, .int .i64 k, .int .i64 0, .int .i64 0, .string ⟨#[]⟩, .slice ao' n n]] w fun e w' => e = .returned (.bool true) ∧ Below w.heap.size w w' := by
  obtain ⟨wb, hwb⟩ : ∃ wb, wb = w.alloc (.cells #[.int .i64 lsn, .int .i64 k, .int .i64 0, .int .i64 0, .string ⟨#[]⟩, .slice ao n n] 25) := ⟨_, rfl⟩
  obtain ⟨wc, hwc⟩ : ∃ wc, wc = wb.alloc (.cells #[.int .i64 lsn, .int .i64 k, .int .i64 0, .int .i64 0, .string ⟨#[]⟩, .slice ao' n n] 25) := ⟨_, rfl⟩
  obtain ⟨b1, hb1⟩ : ∃ b1, b1 = w.heap.size := ⟨_, rfl⟩
  obtain ⟨b2, hb2⟩ : ∃ b2, b2 = w.heap.size + 1 := ⟨_, rfl⟩
  have P1 : Hid (PK wc b1 lsn k 0 0 ⟨#[]⟩ (.slice ao n n)) := by rw [hwc, hwb, hb1]; exact (PK.new w _ _ _ _ _ _).below ((Below.refl _ _).alloc (Nat.le_refl _) _)
  have e2 : b2 = wb.heap.size := by rw [hb2, hwb]; simp
  have P2 : Hid (PK wc b2 lsn k 0 0 ⟨#[]⟩ (.slice ao' n n)) := by rw [hwc, e2]; exact PK.new wb _ _ _ _ _ _
  have HB : Hid (Below w.heap.size w wc) := by
    have q : Below w.heap.size w wb := by rw [hwb]; exact (Below.refl _ w).alloc (Nat.le_refl _) _
    unfold Hid; rw [hwc]; exact q.alloc q.size _
  have HS := Lib.hid (h.below HB.out rfl)
  have HS' := Lib.hid (h'.below HB.out rfl)
  have HE := Lib.hid he
  have HWB := Lib.hid hwb
  have HWC := Lib.hid hwc
  have HB1 := Lib.hid hb1
  have HB2 := Lib.hid hb2
  clear hwb hwc hb1 hb2 h h' he e2
  go_enter Try.func10, Try.ntmps10
  have c := P1.out.cell
  have d := P2.out.cell
  rw [HWC.out, HWB.out, HB1.out] at c
  rw [HWC.out, HWB.out, HB2.out] at d
  obtain ⟨c0, c1, c2, c3, c4, c5⟩ := c
  obtain ⟨d0, d1, d2, d3, d4, d5⟩ := d
  have s1 : (lsn != lsn) = false := by simp
  have s2 : (k != k) = false := by simp
  have s3 : ((n : Int) != (n : Int)) = false := by simp
  go_wp2_with fail
  clear c0 c1 c2 c3 c4 c5 d0 d1 d2 d3 d4 d5
  rw [← HWB.out, ← HWC.out, ← HB2.out, ← HB1.out]
  clear HWB HWC HB1 HB2
  go_loopw [5] (fun i wr => ∃ j : Nat, j ≤ n ∧ i = .int .i64 j ∧ Hid (Below wc.heap.size wc wr)) (fun i _ => n - (intOf i).toNat)
  case atStart => exact ⟨0, Nat.zero_le _, rfl, Below.refl _ _⟩
  case round =>
    obtain ⟨j, hj, rfl, HW⟩ := hrel
    have c5 := bel_at HW.out P1.out.cell.2.2.2.2.2
    have d5 := bel_at HW.out P2.out.cell.2.2.2.2.2
    by_cases hlt : j < n
    · obtain ⟨b, off, rfl, hc, _⟩ := HS.out j hlt
      obtain ⟨b', off', rfl, hc', _⟩ := HS'.out j hlt
      rw [← HE.out j hlt] at hc'
      have q1 := bel_at HW.out hc
      have q2 := bel_at HW.out hc'
      clear hc hc'
      have hself : ((S j).toList == (S j).toList) = true := by simp
      go_upto_region 6 with (fail)
      go_quiet (fail)
      go_wp2_with fail
      go_roundw
      case rel => exact ⟨j + 1, by omega, by go_num, HW.out.trans ((below_drewN _ _).mono HW.out.size)⟩
      case measure => simp [intOf]; omega
    · go_wp2_with fail
      go_ret
      exact ⟨rfl, HB.out.trans (HW.out.mono HB.out.size)⟩

/-- A page that was given, in its block. -/
structure GP (w : World) (b : Nat) (o : Int × Int × Int × List UInt8) (lsn k : Int) (ao : Option Addr) (n : Nat) (S : Nat → ByteArray) : Prop where
  pk : PK w b lsn k 0 0 ⟨#[]⟩ (.slice ao n n)
  it : StrsIn w ao n S
  ps : PgS o lsn k n S
theorem GP.below {w w' : World} {b : Nat} {o : Int × Int × Int × List UInt8} {lsn k : Int} {ao : Option Addr} {n : Nat} {S : Nat → ByteArray} (H : GP w b o lsn k ao n S) (hb : Below w.heap.size w w') : GP w' b o lsn k ao n S := ⟨H.pk.below hb, H.it.below hb rfl, H.ps⟩
theorem GP.st {w w' : World} {b : Nat} {o : Int × Int × Int × List UInt8} {lsn k : Int} {ao : Option Addr} {n : Nat} {S : Nat → ByteArray} (H : GP w b o lsn k ao n S) {b' : Nat} {a0 a1 a2 a3 : Int} {h : ByteArray} {ao' : Option Addr} {n' c' : Nat} (hp : PK w b' a0 a1 a2 a3 h (.slice ao' n' c')) (hg : w.grownBy w' (some b')) (hne : b ≠ b') : GP w' b o lsn k ao n S :=
  ⟨H.pk.grown hg (by simpa using hne), H.it.st H.ps.two hp hg, H.ps⟩
theorem PgS.same {o : Int × Int × Int × List UInt8} {lsn k lsn' k' : Int} {n n' : Nat} {S S' : Nat → ByteArray} (h : PgS o lsn k n S) (h' : PgS o lsn' k' n' S') : lsn = lsn' ∧ k = k' ∧ n = n' ∧ n ≤ 2 ∧ ∀ i, i < n → S i = S' i := by
  by_cases h0 : o.1 = 0
  · obtain ⟨a1, a2, a3, a4, a5⟩ := h.1 h0
    obtain ⟨b1, b2, b3, b4, b5⟩ := h'.1 h0
    refine ⟨a1.trans b1.symm, a2.trans b2.symm, a3.trans b3.symm, by omega, fun i hi => ?_⟩
    match i, (by omega : i < 2) with
    | 0, _ => rw [a4, b4]
    | 1, _ => rw [a5, b5]
  · obtain ⟨a1, a2, a3⟩ := h.2 h0
    obtain ⟨b1, b2, b3⟩ := h'.2 h0
    exact ⟨a1.trans b1.symm, a2.trans b2.symm, a3.trans b3.symm, by omega, fun i hi => by omega⟩
theorem gp_same {w : World} {b b' : Nat} {o : Int × Int × Int × List UInt8} {lsn k lsn' k' : Int} {ao ao' : Option Addr} {n n' : Nat} {S S' : Nat → ByteArray} (H : GP w b o lsn k ao n S) (H' : GP w b' o lsn' k' ao' n' S') :
    Calls Try.prog 10 #[.agg #[.int .i64 lsn, .int .i64 k, .int .i64 0, .int .i64 0, .string ⟨#[]⟩, .slice ao n n], .agg #[.int .i64 lsn', .int .i64 k', .int .i64 0, .int .i64 0, .string ⟨#[]⟩, .slice ao' n' n']] w fun e w' => e = .returned (.bool true) ∧ Below w.heap.size w w' := by
  obtain ⟨rfl, rfl, rfl, h2, hs⟩ := H.ps.same H'.ps
  exact rsame_c lsn k ao ao' n S S' w h2 H.it H'.it hs
theorem pr_rset (m lsn F x s : Int) (f : Nat → Nat) (ao : Option Addr) (S : Nat → ByteArray) (w : World) (H : PR m w lsn F f ao S) (hs0 : 0 ≤ s) :
    Calls Try.prog 12 #[.int .i64 m, .agg #[.int .i64 lsn, .int .i64 1, .int .i64 0, .int .i64 0, .string ⟨#[]⟩, .slice ao 2 2], .int .i64 x, .int .u8 s] w fun e w' => POut w (setR m lsn F f x s) e w' := by
  have e : setV m lsn x s (opV m lsn 1 0 0 ⟨#[]⟩ 2 S) = setR m lsn F f x s := by
    rw [H.op]; unfold setV setR
    rw [if_neg (by simp)]
    split
    · rw [bs_upd_st H.hf.le]
    · rfl
  rw [← e]
  exact rset_c m lsn 1 0 0 x s ⟨#[]⟩ ao 2 2 S w H.it hs0
theorem pr_rcut (m lsn F x : Int) (f : Nat → Nat) (ao : Option Addr) (S : Nat → ByteArray) (w : World) (H : PR m w lsn F f ao S) :
    Calls Try.prog 14 #[.int .i64 m, .agg #[.int .i64 lsn, .int .i64 1, .int .i64 0, .int .i64 0, .string ⟨#[]⟩, .slice ao 2 2], .int .i64 x] w fun e w' => POut w (cutR m lsn F f x) e w' := by
  have e : cutV m lsn x (opV m lsn 1 0 0 ⟨#[]⟩ 2 S) = cutR m lsn F f x := by
    rw [H.op]; unfold cutV cutR
    rw [if_neg (by simp)]
    split
    · rw [bs_cut_st H.hf.le]
    · rfl
  rw [← e]
  exact rcut_c m lsn 1 0 0 x ⟨#[]⟩ ao 2 2 S w H.it
end Go.Proofs.Ytpmhcpphbilokaa
