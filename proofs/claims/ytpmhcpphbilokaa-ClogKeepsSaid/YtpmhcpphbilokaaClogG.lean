/- Statuses: the walks of Blank, Frozen, Check, Set, Cut. -/
import Derived.Test.YtpmhcpphbilokaaClogF
namespace Go.Proofs.Ytpmhcpphbilokaa
open Go.RowKit
set_option linter.unusedSimpArgs false
set_option maxRecDepth 100000

/-- What a page holds: E (what was wrong), its number, its limit, its bytes. -/
def PgS (o : Int × Int × Int × List UInt8) (lsn k : Int) (n : Nat) (S : Nat → ByteArray) : Prop :=
  (o.1 = 0 → lsn = o.2.1 ∧ k = 1 ∧ n = 2 ∧ S 0 = numS o.2.2.1 ∧ S 1 = ⟨o.2.2.2.toArray⟩) ∧ (o.1 ≠ 0 → lsn = 0 ∧ k = 0 ∧ n = 0)
/-- A page and what was wrong are given. -/
def POut (w : World) (o : Int × Int × Int × List UInt8) (e : Ending) (w' : World) : Prop :=
  (∃ (lsn k : Int) (ao : Option Addr) (n : Nat) (S : Nat → ByteArray), e = .returned (.tuple #[.agg #[.int .i64 lsn, .int .i64 k, .int .i64 0, .int .i64 0, .string ⟨#[]⟩, .slice ao n n], .int .i64 o.1]) ∧ StrsIn w' ao n S ∧ PgS o lsn k n S) ∧ Below w.heap.size w w'
theorem sz_num {x : Int} (hx : x ≤ 9223372036854775807) : (numS x).size ≤ 9223372036854775807 := by
  unfold numS
  rw [size_arr]
  have := sev_len (n := x.toNat) (by omega)
  omega
theorem PgIn.strs {w : World} {q : Nat} {x : Int} {l : List UInt8} (h : PgIn w q x l) (hx : x ≤ 9223372036854775807) (hl : l.length ≤ 9223372036854775807) :
    StrsIn w (some ⟨q, 0, none⟩) 2 (fun i => if i = 0 then numS x else ⟨l.toArray⟩) := by
  intro i hi
  match i, hi with
  | 0, _ => exact ⟨q, 0, rfl, h.c0, sz_num hx⟩
  | 1, _ => exact ⟨q, 0, rfl, h.c1, by show (⟨l.toArray⟩ : ByteArray).size ≤ _; rw [size_arr]; exact hl⟩
theorem pOut_bad {w w' : World} {E : Int} (hE : E ≠ 0) (hb : Below w.heap.size w w') : POut w (E, 0, 0, []) (.returned (.tuple #[.agg #[.int .i64 0, .int .i64 0, .int .i64 0, .int .i64 0, .string ⟨#[]⟩, .slice none 0 0], .int .i64 E])) w' :=
  ⟨⟨0, 0, none, 0, fun _ => ⟨#[]⟩, rfl, fun i hi => by omega, fun h => absurd h hE, fun _ => ⟨rfl, rfl, rfl⟩⟩, hb⟩
theorem pOut_ok {w w' : World} {lsn x : Int} {q : Nat} {l : List UInt8} (h : PgIn w' q x l) (hx : x ≤ 9223372036854775807) (hl : l.length ≤ 9223372036854775807) (hb : Below w.heap.size w w') :
    POut w (0, lsn, x, l) (.returned (.tuple #[.agg #[.int .i64 lsn, .int .i64 1, .int .i64 0, .int .i64 0, .string ⟨#[]⟩, .slice (some ⟨q, 0, none⟩) 2 2], .int .i64 0])) w' :=
  ⟨⟨lsn, 1, some ⟨q, 0, none⟩, 2, _, rfl, h.strs hx hl, fun _ => ⟨rfl, rfl, rfl, rfl, rfl⟩, fun h => absurd rfl h⟩, hb⟩

theorem zero_new (w : World) (n : Nat) (e : TypeId) : BV (w.alloc (.cells (madeCells #[.int .u8 0] n) e)) w.heap.size (bsOf (fun _ => 0) n) := by
  refine ⟨fun j hj => ?_, fun j hj => ?_, by simp⟩
  · have hj' : j < n := by rwa [bsOf_len] at hj
    rw [bsOf_nat (fun _ => by omega)]
    simp [madeCells, hj', Nat.mod_one, byteF]
  · simp

/-- The page of no transaction. -/
def blV (m x : Int) : Int × Int × Int × List UInt8 := if okm m && okx m x then (0, 0, x, bsOf (fun _ => 0) (sz m)) else (1, 0, 0, [])

set_option maxHeartbeats 2000000 in
theorem blank_c (m x : Int) (w : World) :
    Calls Try.prog 8 #[.int .i64 m, .int .i64 x] w fun e w' => POut w (blV m x) e w' := by
  obtain ⟨wb, hwb⟩ : ∃ wb, wb = w.alloc (.cells #[.int .i64 0, .int .i64 0, .int .i64 0, .int .i64 0, .string ⟨#[]⟩, .slice none 0 0] 25) := ⟨_, rfl⟩
  obtain ⟨br, hbr⟩ : ∃ br, br = w.heap.size := ⟨_, rfl⟩
  have HRB : Hid (IsPg wb br) := by rw [hwb, hbr]; exact (PK.new w 0 0 0 0 _ _).is
  have HB : Hid (Below w.heap.size w wb) := by rw [hwb]; exact (Below.refl _ w).alloc (Nat.le_refl _) _
  have HN : Hid (w.heap.size ≤ br) := by rw [hbr]; exact Nat.le_refl _
  have HWB := Lib.hid hwb
  have HBR := Lib.hid hbr
  clear hwb hbr
  go_enter Try.func8, Try.ntmps8
  go_wp2_with fail
  rw [← HWB.out, ← HBR.out]
  clear HWB HBR
  refine (isMod_c m wb).mono ?_
  rintro e w1 ⟨rfl, hb1⟩
  have HB1 := Lib.hid (HB.out.trans (hb1.mono HB.out.size))
  have HR1 := Lib.hid (HRB.out.grown (grown_of hb1) (by simp))
  clear hb1 HB HRB
  cases hm : okm m
  · have HV : Hid (blV m x = (1, 0, 0, [])) := by unfold Hid blV; rw [hm]; rfl
    have hip := HR1.out
    go_wp2_with (refine wpList_st_page rfl _ _ rfl br rfl _ _ _ _ _ _ rfl rfl hip ?_)
    refine ret_cell rfl br _ _ _ _ rfl (hip.set6 _ _ _ _ _ _) Try.underlying25 rfl (by kernel_rfl) rfl ?_
    rw [HV.out]
    exact pOut_bad (by decide) (below_own HB1.out HN.out (setP_grown _ _ _ _ _ _ _ _))
  · have CI := Lib.hid (fun w => isID_ok m x w hm)
    have CZ := Lib.hid (fun w => size_c m w hm)
    have HS := Lib.hid (sz_int hm)
    go_wp2_with fail
    refine (CI.out w1).mono ?_
    rintro e w2 ⟨rfl, hb2⟩
    have HB2 := Lib.hid (HB1.out.trans (hb2.mono HB1.out.size))
    have HR2 := Lib.hid (HR1.out.grown (grown_of hb2) (by simp))
    clear hb2 HB1 HR1 CI
    cases hx : okx m x
    · have HV : Hid (blV m x = (1, 0, 0, [])) := by unfold Hid blV; rw [hm, hx]; rfl
      have hip := HR2.out
      go_wp2_with (refine wpList_st_page rfl _ _ rfl br rfl _ _ _ _ _ _ rfl rfl hip ?_)
      refine ret_cell rfl br _ _ _ _ rfl (hip.set6 _ _ _ _ _ _) Try.underlying25 rfl (by kernel_rfl) rfl ?_
      rw [HV.out]
      exact pOut_bad (by decide) (below_own HB2.out HN.out (setP_grown _ _ _ _ _ _ _ _))
    · have HV : Hid (blV m x = (0, 0, x, bsOf (fun _ => 0) (sz m))) := by unfold Hid blV; rw [hm, hx]; rfl
      have HX : Hid (x ≤ 9223372036854775807) := by have := okx_bd hx; have := okm_bd hm; unfold Hid; omega
      clear hx hm
      go_wp2_with fail
      refine (CZ.out w2).mono ?_
      rintro e w3 ⟨rfl, rfl⟩
      obtain ⟨s, hs⟩ : ∃ s, s = sz m := ⟨_, rfl⟩
      have hs2 : 4 ≤ s ∧ s ≤ 256 := by rw [hs]; exact HS.out.2
      rw [← hs] at HV ⊢
      clear hs HS CZ
      have hmk := run_make_row' (P := Try.prog) 55 5 (.int .u8 0) 1 Try.underlying55 Try.info_u8 rfl .i64 .i64 s (by omega) (by omega)
      have HZ := Lib.hid (zero_new w2 s 5)
      go_wp2_with fail
      clear hmk
      have HB4 : Hid (Below w.heap.size w (w2.alloc (.cells (madeCells #[.int .u8 0] s) 5))) := HB2.out.alloc HB2.out.size _
      have HR4 : Hid (IsPg (w2.alloc (.cells (madeCells #[.int .u8 0] s) 5)) br) := HR2.out.grown (grown_alloc _ _ none) (by simp)
      generalize w2.alloc (.cells (madeCells #[.int .u8 0] s) 5) = w4 at *
      generalize w2.heap.size = g at *
      refine (made_c x 0 g s s (bsOf (fun _ => 0) s) w4 HX.out (bsOf_len _ _) HZ.out.cell).mono ?_
      rintro e w5 ⟨⟨q, rfl, hq, hge⟩, hb5⟩
      have HB5 := Lib.hid (HB4.out.trans (hb5.mono HB4.out.size))
      have hip := HR4.out.grown (grown_of hb5) (by simp)
      have HNE : Hid (some q ≠ some br) := by have := HR4.out.lt; unfold Hid; intro e; injection e with e; omega
      have HQ := Lib.hid hq
      clear hb5 hge hq HB4 HR4 HZ
      unfold pgV
      go_wp2_with (refine wpList_st_page rfl _ _ rfl br rfl _ _ _ _ _ _ rfl rfl hip ?_)
      refine ret_cell rfl br _ _ _ _ rfl (hip.set6 _ _ _ _ _ _) Try.underlying25 rfl (by kernel_rfl) rfl ?_
      rw [HV.out]
      exact pOut_ok (HQ.out.grown (setP_grown _ _ _ _ _ _ _ _) HNE.out) HX.out (by rw [bsOf_len]; omega) (below_own HB5.out HN.out (setP_grown _ _ _ _ _ _ _ _))
end Go.Proofs.Ytpmhcpphbilokaa
