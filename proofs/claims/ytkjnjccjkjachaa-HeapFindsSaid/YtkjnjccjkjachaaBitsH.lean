/- The reader's contracts. -/
import Derived.Test.YtkjnjccjkjachaaBitsG
namespace Go.Proofs.Ytkjnjccjkjachaa
open Go.RowKit
set_option linter.unusedSimpArgs false
set_option maxRecDepth 100000

/-- What is taken of bytes: after k bytes with the sum n; 'inl c': the error c; 'inr (n, k)': the number and how many bytes. -/
def rd (most : Int) : Nat → Nat → Nat → List UInt8 → Nat ⊕ (Nat × Nat)
  | 0, _, _, _ => .inl 11
  | _ + 1, _, _, [] => .inl 10
  | f + 1, k, n, b :: l =>
    if b.toNat = 0 ∧ 0 < k then .inl 11
    else if 128 ≤ b.toNat then rd most f (k + 1) (n + b.toNat % 128 * 128 ^ k) l
    else if max most 0 < ((n + b.toNat % 128 * 128 ^ k : Nat) : Int) then .inl 11
    else .inr (n + b.toNat % 128 * 128 ^ k, k + 1)

/-- A reader in block br: what is left, and the error. -/
structure RdV (w : World) (br : Nat) (s : ByteArray) (c : Int) : Prop where
  rest : w.cell? ⟨br, 0, none⟩ = some (.string s)
  err : w.cell? ⟨br, 1, none⟩ = some (.int .i64 c)
  f0 : w.frozen? ⟨br, 0, none⟩ = false
  f1 : w.frozen? ⟨br, 1, none⟩ = false

theorem read_c (s : ByteArray) (w : World) :
    Calls Try.prog 45 #[.string s] w fun e w' => e = .returned (.pointer (some ⟨w.heap.size, 0, none⟩)) ∧ RdV w' w.heap.size s 0 ∧ Below w.heap.size w w' ∧ w'.heap.size = w.heap.size + 1 := by
  go_enter Try.func45, Try.ntmps45
  go_wp2_with fail
  go_ret
  refine ⟨rfl, ⟨?_, ?_, ?_, ?_⟩, (Below.refl _ w).alloc (Nat.le_refl _) _, by simp⟩
  all_goals simp [go_sem]

theorem RdV.lt {w : World} {br : Nat} {s : ByteArray} {c : Int} (h : RdV w br s c) : br < w.heap.size := World.block_lt_of_cell? w _ h.rest
theorem RdV.grown {w w' : World} {br : Nat} {s : ByteArray} {c : Int} (h : RdV w br s c) {row : Option Nat} (hg : w.grownBy w' row) (hr : some br ≠ row) : RdV w' br s c :=
  ⟨grown_at hg h.rest hr, grown_at hg h.err hr, (grown_fr (a := ⟨br, 0, none⟩) hg h.lt hr).trans h.f0, (grown_fr (a := ⟨br, 1, none⟩) hg h.lt hr).trans h.f1⟩
theorem RdV.below {w w' : World} {br : Nat} {s : ByteArray} {c : Int} (h : RdV w br s c) (hb : Below w.heap.size w w') : RdV w' br s c := h.grown (grown_of hb) (by simp)
theorem RdV.setS {w : World} {br : Nat} {s : ByteArray} {c : Int} (h : RdV w br s c) (s' : ByteArray) : RdV (w.setCell ⟨br, 0, none⟩ (.string s')) br s' c :=
  ⟨set_same _ h.rest, set_other _ (by simp) h.err, by rw [World.frozen?_setCell]; exact h.f0, by rw [World.frozen?_setCell]; exact h.f1⟩
theorem RdV.setE {w : World} {br : Nat} {s : ByteArray} {c : Int} (h : RdV w br s c) (c' : Int) : RdV (w.setCell ⟨br, 1, none⟩ (.int .i64 c')) br s c' :=
  ⟨set_other _ (by simp) h.rest, set_same _ h.err, by rw [World.frozen?_setCell]; exact h.f0, by rw [World.frozen?_setCell]; exact h.f1⟩

theorem fail_c (br : Nat) (s : ByteArray) (c c' : Int) (w : World) (h : RdV w br s c) :
    Calls Try.prog 59 #[.pointer (some ⟨br, 0, none⟩), .int .i64 c'] w fun e w' => e = .returned (.int .i64 0) ∧ RdV w' br ⟨#[]⟩ c' ∧ w.grownBy w' (some br) := by
  have h0 := h.rest
  have h1 := h.err
  have h2 := h.f0
  have h3 := h.f1
  have H := Lib.hid h
  clear h
  go_enter Try.func59, Try.ntmps59
  go_wp2_with fail
  go_ret
  exact ⟨rfl, (H.out.setS _).setE _, grown_trans (grown_set _ _ _ _) (grown_set _ _ _ _)⟩

theorem left_r (br : Nat) (s : ByteArray) (c : Int) (w : World) (h : RdV w br s c) :
    Calls Try.prog 61 #[.pointer (some ⟨br, 0, none⟩)] w fun e w' => e = .returned (.int .i64 s.size) ∧ w = w' := by
  have h0 := h.rest
  clear h
  go_enter Try.func61, Try.ntmps61
  go_wp2_with fail
  go_ret
  exact ⟨rfl, rfl⟩
theorem err_r (br : Nat) (s : ByteArray) (c : Int) (w : World) (h : RdV w br s c) :
    Calls Try.prog 60 #[.pointer (some ⟨br, 0, none⟩)] w fun e w' => e = .returned (.int .i64 c) ∧ w = w' := by
  have h0 := h.err
  clear h
  go_enter Try.func60, Try.ntmps60
  go_wp2_with fail
  go_ret
  exact ⟨rfl, rfl⟩
/-- What End says. -/
def endV (n : Nat) (c : Int) : Int := if c = 0 ∧ 0 < n then 12 else c
theorem end_r (br : Nat) (s : ByteArray) (c : Int) (w : World) (h : RdV w br s c) :
    Calls Try.prog 48 #[.pointer (some ⟨br, 0, none⟩)] w fun e w' => e = .returned (.int .i64 (endV s.size c)) ∧ w = w' := by
  have H := Lib.hid h
  clear h
  by_cases hc : c = 0
  · subst hc
    by_cases hs : 0 < s.size
    · have HE : Hid (endV s.size 0 = 12) := by unfold Hid endV; simp [hs]
      go_enter Try.func48, Try.ntmps48
      go_wp2_with fail
      refine (err_r br s 0 _ H.out).mono ?_
      rintro e w1 ⟨rfl, rfl⟩
      go_wp2_with fail
      refine (left_r br s 0 _ H.out).mono ?_
      rintro e w1 ⟨rfl, rfl⟩
      go_wp2_with fail
      go_ret
      exact ⟨retI HE.out.symm, rfl⟩
    · have HE : Hid (endV s.size 0 = 0) := by unfold Hid endV; simp [hs]
      go_enter Try.func48, Try.ntmps48
      go_wp2_with fail
      refine (err_r br s 0 _ H.out).mono ?_
      rintro e w1 ⟨rfl, rfl⟩
      go_wp2_with fail
      refine (left_r br s 0 _ H.out).mono ?_
      rintro e w1 ⟨rfl, rfl⟩
      go_wp2_with fail
      refine (err_r br s 0 _ H.out).mono ?_
      rintro e w1 ⟨rfl, rfl⟩
      go_wp2_with fail
      go_ret
      exact ⟨retI HE.out.symm, rfl⟩
  · have HE : Hid (endV s.size c = c) := by unfold Hid endV; simp [hc]
    have hc' : (c == 0) = false := by rw [beq_eq_false_iff_ne]; exact hc
    go_enter Try.func48, Try.ntmps48
    go_wp2_with fail
    refine (err_r br s c _ H.out).mono ?_
    rintro e w1 ⟨rfl, rfl⟩
    go_wp2_with fail
    refine (err_r br s c _ H.out).mono ?_
    rintro e w1 ⟨rfl, rfl⟩
    go_wp2_with fail
    go_ret
    exact ⟨retI HE.out.symm, rfl⟩
end Go.Proofs.Ytkjnjccjkjachaa
