/- awake. -/
import Derived.Test.YtkjnjccjkjachaaBitsJ
namespace Go.Proofs.Ytkjnjccjkjachaa
open Go.RowKit
set_option linter.unusedSimpArgs false
set_option maxRecDepth 100000

theorem num3_c (bw B : Nat) (v : Value) (l : List UInt8) (x y z : Int) (w0 w : World) (hw0 : WrV w0 bw B 5 v l) (hw : w = w0.alloc (.cells #[.int .i64 x, .int .i64 y, .int .i64 z] 3))
    (hx : x ≤ 9223372036854775807) (hy : y ≤ 9223372036854775807) (hz : z ≤ 9223372036854775807) (hlen : l.length + 27 ≤ 140737488355328) :
    Calls Try.prog 49 #[.pointer (some ⟨bw, 0, none⟩), .slice (some ⟨w0.heap.size, 0, none⟩) 3 3] w fun e w' => e = .returned (.tuple #[]) ∧ ∃ v', WS w0 v bw B 5 w' v' (l ++ sevs [x, y, z]) := by
  subst hw
  have h1 := hw0.lt
  have h2 := hw0.le
  have h4 : ∀ g, v.ownBlock = some g → g < w0.heap.size := fun g hg => (hw0.own.lt g hg).2
  refine (num_c bw B v l [x, y, z] (some ⟨w0.heap.size, 0, none⟩) 3 _ (hw0.alloc _) ?_ ?_ ?_ (by simp; omega)).mono ?_
  · intro t ht; simp at ht; omega
  · intro j t hj
    match j, hj with
    | 0, hj => simp at hj; subst hj; exact ⟨_, rfl, by simp [Addr.add]⟩
    | 1, hj => simp at hj; subst hj; exact ⟨_, rfl, by simp [Addr.add]⟩
    | 2, hj => simp at hj; subst hj; exact ⟨_, rfl, by simp [Addr.add]⟩
    | (j + 3), hj => simp at hj
  · rintro ad ⟨⟩
    refine ⟨by simp; omega, ?_⟩
    intro h; have := h4 _ h.symm; simp at this
  · rintro e w1 ⟨rfl, v1, hS⟩
    exact ⟨rfl, v1, ((WS.start hw0).below ((Below.refl _ w0).alloc (Nat.le_refl _) _)).trans hS⟩
theorem num1_c (bw B : Nat) (v : Value) (l : List UInt8) (x : Int) (w0 w : World) (hw0 : WrV w0 bw B 5 v l) (hw : w = w0.alloc (.cells #[.int .i64 x] 3))
    (hx : x ≤ 9223372036854775807) (hlen : l.length + 9 ≤ 140737488355328) :
    Calls Try.prog 49 #[.pointer (some ⟨bw, 0, none⟩), .slice (some ⟨w0.heap.size, 0, none⟩) 1 1] w fun e w' => e = .returned (.tuple #[]) ∧ ∃ v', WS w0 v bw B 5 w' v' (l ++ sev x.toNat) := by
  subst hw
  have h1 := hw0.lt
  have h2 := hw0.le
  have h4 : ∀ g, v.ownBlock = some g → g < w0.heap.size := fun g hg => (hw0.own.lt g hg).2
  refine (num_c bw B v l [x] (some ⟨w0.heap.size, 0, none⟩) 1 _ (hw0.alloc _) ?_ ?_ ?_ (by simp; omega)).mono ?_
  · intro t ht; simp at ht; omega
  · intro j t hj
    match j, hj with
    | 0, hj => simp at hj; subst hj; exact ⟨_, rfl, by simp [Addr.add]⟩
    | (j + 1), hj => simp at hj
  · rintro ad ⟨⟩
    refine ⟨by simp; omega, ?_⟩
    intro h; have := h4 _ h.symm; simp at this
  · rintro e w1 ⟨rfl, v1, hS⟩
    rw [sevs_one] at hS
    exact ⟨rfl, v1, ((WS.start hw0).below ((Below.refl _ w0).alloc (Nat.le_refl _) _)).trans hS⟩

theorem RdV.touch {w w' : World} {br bw : Nat} {ob : Option Nat} {s : ByteArray} {c : Int} (h : RdV w br s c) (ht : Touch bw ob w w') (h1 : br ≠ bw) (h2 : some br ≠ ob) : RdV w' br s c :=
  have hk := ht.block br h.lt h1 h2
  ⟨ht.at h.rest h1 h2, ht.at h.err h1 h2, (World.frozen?_of_block (a := ⟨br, 0, none⟩) hk).trans h.f0, (World.frozen?_of_block (a := ⟨br, 1, none⟩) hk).trans h.f1⟩
end Go.Proofs.Ytkjnjccjkjachaa
