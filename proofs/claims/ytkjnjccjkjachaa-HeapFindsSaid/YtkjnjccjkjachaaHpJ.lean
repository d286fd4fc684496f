/- A page that can't be encoded; what a record of an Insert does to a page. -/
import Derived.Test.YtkjnjccjkjachaaHpI
namespace Go.Proofs.Ytkjnjccjkjachaa
open Go.RowKit
set_option linter.unusedSimpArgs false
set_option linter.unusedVariables false
set_option maxRecDepth 100000

/-- May a page be encoded? -/
def encd (a0 a1 a2 a3 : Int) (h : ByteArray) (S : Nat → ByteArray) (len : Nat) : Bool :=
  decide (0 ≤ a0 ∧ (1 ≤ a1 ∧ a1 ≤ 3) ∧ (0 ≤ a2 ∧ a2 ≤ 255) ∧ (0 ≤ a3 ∧ a3 ≤ 4294967295) ∧ h.size ≤ 255) && okfit h S len
/-- What an Encode tells: the error alone. -/
def EOut (w : World) (ok : Bool) (e : Ending) (w' : World) : Prop :=
  (∃ (s : ByteArray) (E : Int), e = .returned (.tuple #[.string s, .int .i64 E]) ∧ (E = 0 ↔ ok = true)) ∧ Below w.heap.size w w'

set_option maxHeartbeats 4000000 in
theorem encode_no (a0 a1 a2 a3 : Int) (h : ByteArray) (ao : Option Addr) (len cap : Nat) (S : Nat → ByteArray) (w : World) (hlen : len ≤ 9223372036854775807) (hM : Small h S len) (hs : StrsIn w ao len S) (hno : ¬ encd a0 a1 a2 a3 h S len = true) :
    Calls Try.prog 9 #[.agg #[.int .i64 a0, .int .i64 a1, .int .i64 a2, .int .i64 a3, .string h, .slice ao len cap]] w fun e w' => EOut w false e w' := by
  have H0 : Hid (PB w (w.alloc (.cells #[.int .i64 a0, .int .i64 a1, .int .i64 a2, .int .i64 a3, .string h, .slice ao len cap] 24)) w.heap.size a0 a1 a2 a3 h ao len cap S) := PB.new w a0 a1 a2 a3 h ao len cap S hs
  obtain ⟨c0, c1, c2, c3, c4, c5⟩ := H0.out.cell
  have HS := Lib.hid hs
  have F := Lib.hid (fun w' hh => fits_p a0 a1 a2 a3 h ao len cap S w' hlen hM hh)
  have hno2 : ¬ (0 ≤ a0 ∧ (1 ≤ a1 ∧ a1 ≤ 3) ∧ (0 ≤ a2 ∧ a2 ≤ 255) ∧ (0 ≤ a3 ∧ a3 ≤ 4294967295) ∧ h.size ≤ 255) ∨ okfit h S len = false := by
    unfold encd at hno
    by_cases hc : (0 ≤ a0 ∧ (1 ≤ a1 ∧ a1 ≤ 3) ∧ (0 ≤ a2 ∧ a2 ≤ 255) ∧ (0 ≤ a3 ∧ a3 ≤ 4294967295) ∧ h.size ≤ 255)
    · right
      rw [decide_eq_true hc, Bool.true_and] at hno
      exact Bool.eq_false_iff.2 hno
    · exact .inl hc
  have HNO := Lib.hid hno2
  clear hno hno2 hM hs
  go_enter Try.func9, Try.ntmps9
  have hmin : (if a3 < (if a2 < a0 then a2 else a0) then a3 else if a2 < a0 then a2 else a0) < 0 ↔ (a0 < 0 ∨ a2 < 0 ∨ a3 < 0) := by split <;> split <;> omega
  have HMIN := Lib.hid hmin
  clear hmin
  by_cases h1 : (if a3 < (if a2 < a0 then a2 else a0) then a3 else if a2 < a0 then a2 else a0) < 0
  · go_wp2_with fail
    all_goals (go_ret2; exact ⟨⟨_, 4, rfl, by simp⟩, H0.out.bel⟩)
  go_upto_region 2 with (fail)
  generalize (if a3 < (if a2 < a0 then a2 else a0) then a3 else if a2 < a0 then a2 else a0) = mm at *
  by_cases h2 : a1 < 1
  · go_wp2_with fail
    go_ret2
    exact ⟨⟨_, 4, rfl, by simp⟩, H0.out.bel⟩
  by_cases h3 : 3 < a1
  · go_wp2_with fail
    go_ret2
    exact ⟨⟨_, 4, rfl, by simp⟩, H0.out.bel⟩
  by_cases h4 : 255 < a2
  · go_wp2_with fail
    go_ret2
    exact ⟨⟨_, 4, rfl, by simp⟩, H0.out.bel⟩
  by_cases h5 : 4294967295 < a3
  · go_wp2_with fail
    go_ret2
    exact ⟨⟨_, 4, rfl, by simp⟩, H0.out.bel⟩
  by_cases h6 : 255 < h.size
  · go_wp2_with fail
    go_ret2
    exact ⟨⟨_, 3, rfl, by simp⟩, H0.out.bel⟩
  have hok : okfit h S len = false := by
    have := HMIN.out
    rcases HNO.out with q | q
    · omega
    · exact q
  rw [hok] at F
  go_wp2_with fail
  generalize w.alloc (.cells #[.int .i64 a0, .int .i64 a1, .int .i64 a2, .int .i64 a3, .string h, .slice ao len cap] 24) = wb at *
  refine (F.out wb H0.out.it).mono ?_
  rintro e w1 ⟨rfl, hb1⟩
  have HB1 := Lib.hid (H0.out.bel.trans (hb1.mono H0.out.bel.size))
  clear hb1 c0 c1 c2 c3 c4 c5 H0 F
  go_wp2_with fail
  go_ret2
  exact ⟨⟨_, 3, rfl, by simp⟩, HB1.out⟩

theorem encode_all (a0 a1 a2 a3 : Int) (h : ByteArray) (ao : Option Addr) (len cap : Nat) (S : Nat → ByteArray) (w : World) (ha0 : a0 ≤ 9223372036854775807) (hlen : len ≤ 9223372036854775807) (hM : Small h S len) (hs : StrsIn w ao len S) :
    Calls Try.prog 9 #[.agg #[.int .i64 a0, .int .i64 a1, .int .i64 a2, .int .i64 a3, .string h, .slice ao len cap]] w fun e w' => EOut w (encd a0 a1 a2 a3 h S len) e w' := by
  by_cases hd : encd a0 a1 a2 a3 h S len = true
  · rw [hd]
    have hd2 := hd
    unfold encd at hd2
    rw [Bool.and_eq_true, decide_eq_true_eq] at hd2
    obtain ⟨⟨q0, q1, q2, q3, q4⟩, q5⟩ := hd2
    have q := encode_yes a0.toNat a1.toNat a2.toNat a3.toNat h ao len cap S w (by omega) (by omega) (by omega) (by omega) q4 q5 hlen hM hs
    rw [show ((a0.toNat : Nat) : Int) = a0 by omega, show ((a1.toNat : Nat) : Int) = a1 by omega, show ((a2.toNat : Nat) : Int) = a2 by omega, show ((a3.toNat : Nat) : Int) = a3 by omega] at q
    exact q.mono fun e w' ⟨⟨s, he⟩, hb⟩ => ⟨⟨s, 0, he, by simp⟩, hb⟩
  · have q := encode_no a0 a1 a2 a3 h ao len cap S w hlen hM hs hd
    rw [Bool.eq_false_iff.2 hd]
    exact q
end Go.Proofs.Ytkjnjccjkjachaa
