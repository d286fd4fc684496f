/- The reference's reader. -/
import Derived.Test.YtkjnjccjkjachaaBitsK
namespace Go.Proofs.Ytkjnjccjkjachaa
open Go.RowKit
set_option linter.unusedSimpArgs false
set_option maxRecDepth 100000

theorem below_drewN (w : World) (n : Nat) : Below w.heap.size w (w.drewN n) := ⟨rfl, rfl, rfl, Nat.le_refl _, fun _ _ => rfl⟩

/-- The reference's reader in block bx: bytes, a place, an error. -/
structure RfV (w : World) (bx : Nat) (s : ByteArray) (a : Nat) (c : Int) : Prop where
  str : w.cell? ⟨bx, 0, none⟩ = some (.string s)
  at' : w.cell? ⟨bx, 1, none⟩ = some (.int .i64 a)
  err : w.cell? ⟨bx, 2, none⟩ = some (.int .i64 c)
  f1 : w.frozen? ⟨bx, 1, none⟩ = false
  f2 : w.frozen? ⟨bx, 2, none⟩ = false
  le : a ≤ s.size
theorem RfV.lt {w : World} {bx : Nat} {s : ByteArray} {a : Nat} {c : Int} (h : RfV w bx s a c) : bx < w.heap.size := World.block_lt_of_cell? w _ h.str
theorem RfV.grown {w w' : World} {bx : Nat} {s : ByteArray} {a : Nat} {c : Int} (h : RfV w bx s a c) {row : Option Nat} (hg : w.grownBy w' row) (hr : some bx ≠ row) : RfV w' bx s a c :=
  ⟨grown_at hg h.str hr, grown_at hg h.at' hr, grown_at hg h.err hr, (grown_fr (a := ⟨bx, 1, none⟩) hg h.lt hr).trans h.f1, (grown_fr (a := ⟨bx, 2, none⟩) hg h.lt hr).trans h.f2, h.le⟩
theorem RfV.below {w w' : World} {bx : Nat} {s : ByteArray} {a : Nat} {c : Int} (h : RfV w bx s a c) (hb : Below w.heap.size w w') : RfV w' bx s a c := h.grown (grown_of hb) (by simp)
theorem RfV.drewN {w : World} {bx : Nat} {s : ByteArray} {a : Nat} {c : Int} (h : RfV w bx s a c) (k : Nat) : RfV (w.drewN k) bx s a c := h.below (below_drewN w k)
theorem RfV.setA {w : World} {bx : Nat} {s : ByteArray} {a : Nat} {c : Int} (h : RfV w bx s a c) {a' : Nat} (ha : a' ≤ s.size) : RfV (w.setCell ⟨bx, 1, none⟩ (.int .i64 a')) bx s a' c :=
  ⟨set_other _ (by simp) h.str, set_same _ h.at', set_other _ (by simp) h.err, by rw [World.frozen?_setCell]; exact h.f1, by rw [World.frozen?_setCell]; exact h.f2, ha⟩
theorem RfV.setE {w : World} {bx : Nat} {s : ByteArray} {a : Nat} {c : Int} (h : RfV w bx s a c) (c' : Int) : RfV (w.setCell ⟨bx, 2, none⟩ (.int .i64 c')) bx s a c' :=
  ⟨set_other _ (by simp) h.str, set_other _ (by simp) h.at', set_same _ h.err, by rw [World.frozen?_setCell]; exact h.f1, by rw [World.frozen?_setCell]; exact h.f2, h.le⟩

/-- What is left by the reference: nothing behind an error. -/
def leftV (s : ByteArray) (a : Nat) (c : Int) : Nat := if c = 0 then s.size - a else 0

end Go.Proofs.Ytkjnjccjkjachaa
