/- heap.lay: a page with an item in a slot, or behind all; heap.Room. -/
import Derived.Test.YtkjnjccjkjachaaHpD
namespace Go.Proofs.Ytkjnjccjkjachaa
open Go.RowKit
set_option linter.unusedSimpArgs false
set_option maxRecDepth 100000

/-- The error of laying. -/
def layE (h : ByteArray) (S : Nat → ByteArray) (len slot : Nat) (x : ByteArray) : Int := if okfit h (updS S slot x) (max len (slot + 1)) = true then 0 else 3
theorem itot_same {S T : Nat → ByteArray} : ∀ {n : Nat}, (∀ i, i < n → S i = T i) → itot S n = itot T n
  | 0, _ => rfl
  | n + 1, h => by
    unfold itot
    rw [itot_same (n := n) fun i hi => h i (by omega), h n (by omega)]
theorem itot_end (S : Nat → ByteArray) (n : Nat) (x : ByteArray) : itot (updS S n x) (n + 1) = itot S n + (2 + x.size) := by
  show itot (updS S n x) n + (2 + (updS S n x n).size) = _
  rw [updS_same, itot_same (T := S) fun i hi => updS_other S x (by omega)]
theorem itot_upd (S : Nat → ByteArray) (n : Nat) (x : ByteArray) : ∀ {len : Nat}, n < len → itot (updS S n x) len + (S n).size = itot S len + x.size
  | 0, h => by omega
  | len + 1, h => by
    by_cases e : n = len
    · subst e
      rw [itot_end]
      show _ = itot S n + (2 + (S n).size) + x.size
      omega
    · have h1 := itot_upd S n x (len := len) (by omega)
      show itot (updS S n x) len + (2 + (updS S n x len).size) + _ = itot S len + (2 + (S len).size) + x.size
      rw [updS_other S x (fun e' => e e'.symm)]
      omega

set_option maxHeartbeats 2000000 in
theorem lay_c (a0 a1 a2 a3 : Int) (h : ByteArray) (ao : Option Addr) (len cap slot : Nat) (S : Nat → ByteArray) (x : ByteArray) (w : World) (hsl : slot ≤ len) (hlen : len ≤ 8796093022000) (hM : Small h S len) (hx : x.size ≤ 140737488355328) (hs : StrsIn w ao len S) :
    Calls Try.prog 18 #[.agg #[.int .i64 a0, .int .i64 a1, .int .i64 a2, .int .i64 a3, .string h, .slice ao len cap], .int .i64 slot, .string x] w fun e w' => POut w (layE h S len slot x) e w' := by
  obtain ⟨E, hE⟩ : ∃ E : Int, E = layE h S len slot x := ⟨_, rfl⟩
  rw [← hE]
  have F1 : Hid (slot = len → ∀ w', StrsIn w' ao len S → Calls Try.prog 38 #[.agg #[.int .i64 a0, .int .i64 a1, .int .i64 a2, .int .i64 a3, .string h, .slice ao len cap], .int .i64 slot, .string x] w' fun e w'' => POut w' E e w'') := by
    intro e w' hh
    subst e
    rw [hE, show layE h S slot slot x = if okfit h (updS S slot x) (slot + 1) = true then 0 else 3 by unfold layE; rw [Nat.max_eq_right (by omega)]]
    exact put_c a0 a1 a2 a3 h ao slot cap S x w' hlen hM hx hh
  have F2 : Hid (slot < len → ∀ w', StrsIn w' ao len S → Calls Try.prog 39 #[.agg #[.int .i64 a0, .int .i64 a1, .int .i64 a2, .int .i64 a3, .string h, .slice ao len cap], .int .i64 slot, .string x] w' fun e w'' => POut w' E e w'') := by
    intro e w' hh
    rw [hE, show layE h S len slot x = if okfit h (updS S slot x) len = true then 0 else 3 by unfold layE; rw [Nat.max_eq_left (by omega)]]
    exact with_c a0 a1 a2 a3 h ao len cap slot S x w' e (by omega) hM hx hh
  obtain ⟨wc, bt, br, hwc, hbt, hbr, h1⟩ := P2.new w a0 a1 a2 a3 h (.slice ao len cap) ao len S hs
  have H1 := Lib.hid h1
  have HWC := Lib.hid hwc
  have HBT := Lib.hid hbt
  have HBR := Lib.hid hbr
  clear hwc hbt hbr h1 hs hM hE hx
  by_cases hsl2 : slot = len
  · have F := Lib.hid (F1.out hsl2)
    clear F1 F2
    subst hsl2
    go_enter Try.func18, Try.ntmps18
    have c := H1.out.cell
    rw [HWC.out, HBT.out] at c
    obtain ⟨c0, c1, c2, c3, c4, c5⟩ := c
    go_wp2_with fail
    clear c0 c1 c2 c3 c4 c5
    rw [← HWC.out, ← HBR.out, ← HBT.out]
    clear HWC HBT HBR
    refine (F.out wc H1.out.it).mono ?_
    rintro e w4 ⟨⟨b0, b1, b2, b3, k, ao5, n5, c5, rfl⟩, hb4⟩
    have H4 := Lib.hid (H1.out.below hb4)
    clear hb4 H1 F
    have hr := H4.out.pr
    go_wp2_with (refine wpList_st_row rfl 24 _ _ rfl br rfl _ rfl hr (by kernel_rfl) rfl (by simp [Value.oneCell']) (fun w5 hp5 hg5 => ?_); have P5 := Lib.hid hp5; have B5 := Lib.hid (below_own H4.out.bel H4.out.le hg5); clear hp5 hg5)
    refine ret_cell rfl br _ _ _ _ rfl P5.out Try.underlying24 rfl (by kernel_rfl) rfl ?_
    exact ⟨⟨_, _, _, _, _, _, _, _, rfl⟩, B5.out⟩
  · have F := Lib.hid (F2.out (by omega))
    clear F1 F2
    go_enter Try.func18, Try.ntmps18
    have c := H1.out.cell
    rw [HWC.out, HBT.out] at c
    obtain ⟨c0, c1, c2, c3, c4, c5⟩ := c
    go_wp2_with fail
    clear c0 c1 c2 c3 c4 c5
    rw [← HWC.out, ← HBR.out, ← HBT.out]
    clear HWC HBT HBR
    refine (F.out wc H1.out.it).mono ?_
    rintro e w4 ⟨⟨b0, b1, b2, b3, k, ao5, n5, c5, rfl⟩, hb4⟩
    have H4 := Lib.hid (H1.out.below hb4)
    clear hb4 H1 F
    have hr := H4.out.pr
    go_wp2_with (refine wpList_st_row rfl 24 _ _ rfl br rfl _ rfl hr (by kernel_rfl) rfl (by simp [Value.oneCell']) (fun w5 hp5 hg5 => ?_); have P5 := Lib.hid hp5; have B5 := Lib.hid (below_own H4.out.bel H4.out.le hg5); clear hp5 hg5)
    refine ret_cell rfl br _ _ _ _ rfl P5.out Try.underlying24 rfl (by kernel_rfl) rfl ?_
    exact ⟨⟨_, _, _, _, _, _, _, _, rfl⟩, B5.out⟩
end Go.Proofs.Ytkjnjccjkjachaa
