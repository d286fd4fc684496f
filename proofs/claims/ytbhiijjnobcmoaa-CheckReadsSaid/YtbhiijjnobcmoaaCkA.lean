/- Checks: configurations. -/
import Derived.Test.YtbhiijjnobcmoaaBitsF
import Derived.Laws.ResultCell
import Derived.Laws.Rows
namespace Go.Proofs.Ytbhiijjnobcmoaa
open Go.RowKit
set_option linter.unusedSimpArgs false
set_option maxRecDepth 100000

def inB (n lo hi : Int) : Bool := decide (lo ≤ n) && decide (n ≤ hi)
theorem in_c (n lo hi : Int) (w : World) : Calls Try.prog 20 #[.int .i64 n, .int .i64 lo, .int .i64 hi] w fun e w' => e = .returned (.bool (inB n lo hi)) ∧ w = w' := by
  by_cases h : lo ≤ n
  · have hd : decide (lo ≤ n) = true := decide_eq_true h
    have HR : Hid (decide (n ≤ hi) = inB n lo hi) := by unfold Hid inB; rw [hd]; rfl
    clear h
    go_enter Try.func20, Try.ntmps20
    go_wp2_with fail
    all_goals (go_ret; refine ⟨retB ?_, rfl⟩; rw [← HR.out])
  · have hd : decide (lo ≤ n) = false := decide_eq_false h
    have HR : Hid (inB n lo hi = false) := by unfold Hid inB; rw [hd]; rfl
    clear h
    go_enter Try.func20, Try.ntmps20
    go_wp2_with fail
    all_goals (go_ret; refine ⟨retB ?_, rfl⟩; rw [HR.out])
/-- May a configuration be? -/
def okCfg (a b c d : Int) : Bool := inB a 4 64 && inB b 16 1024 && (bits BinOp.and IntKind.i64 b 1 == 0) && inB c 160 4096 && inB d 4 4096

set_option maxHeartbeats 2000000 in
theorem sound_c (a b c d : Int) (w : World) :
    Calls Try.prog 11 #[.agg #[.int .i64 a, .int .i64 b, .int .i64 c, .int .i64 d]] w fun e w' => e = .returned (.bool (okCfg a b c d)) ∧ Below w.heap.size w w' := by
  have HB : Hid (Below w.heap.size w (w.alloc (.cells #[.int .i64 a, .int .i64 b, .int .i64 c, .int .i64 d] 23))) := (Below.refl _ w).alloc (Nat.le_refl _) _
  obtain ⟨v1, h1⟩ : ∃ v1, v1 = inB a 4 64 := ⟨_, rfl⟩
  obtain ⟨v2, h2⟩ : ∃ v2, v2 = inB b 16 1024 := ⟨_, rfl⟩
  obtain ⟨v3, h3⟩ : ∃ v3, v3 = (bits BinOp.and IntKind.i64 b 1 == 0) := ⟨_, rfl⟩
  obtain ⟨v4, h4⟩ : ∃ v4, v4 = inB c 160 4096 := ⟨_, rfl⟩
  obtain ⟨v5, h5⟩ : ∃ v5, v5 = inB d 4 4096 := ⟨_, rfl⟩
  have HR : Hid (okCfg a b c d = (v1 && v2 && v3 && v4 && v5)) := by unfold Hid okCfg; rw [h1, h2, h3, h4, h5]
  have H1 := Lib.hid h1
  have H2 := Lib.hid h2
  have H4 := Lib.hid h4
  have H5 := Lib.hid h5
  have q3 := h3.symm
  clear h1 h2 h3 h4 h5
  go_enter Try.func11, Try.ntmps11
  go_wp2_with fail
  refine (in_c a 4 64 _).mono ?_
  rintro e w1 ⟨rfl, rfl⟩
  rw [← H1.out]
  cases v1
  · go_wp2_with fail
    go_ret
    exact ⟨retB (by rw [HR.out]; rfl), HB.out⟩
  go_wp2_with fail
  refine (in_c b 16 1024 _).mono ?_
  rintro e w2 ⟨rfl, rfl⟩
  rw [← H2.out]
  cases v2
  · go_wp2_with fail
    go_ret
    exact ⟨retB (by rw [HR.out]; rfl), HB.out⟩
  cases v3
  · go_wp2_with fail
    go_ret
    exact ⟨retB (by rw [HR.out]; rfl), HB.out⟩
  go_wp2_with fail
  refine (in_c c 160 4096 _).mono ?_
  rintro e w3 ⟨rfl, rfl⟩
  rw [← H4.out]
  cases v4
  · go_wp2_with fail
    go_ret
    exact ⟨retB (by rw [HR.out]; rfl), HB.out⟩
  go_wp2_with fail
  refine (in_c d 4 4096 _).mono ?_
  rintro e w4 ⟨rfl, rfl⟩
  rw [← H5.out]
  go_wp2_with fail
  go_ret
  exact ⟨retB (by rw [HR.out]; rfl), HB.out⟩
end Go.Proofs.Ytbhiijjnobcmoaa
