/- The reference's text; numbers as bytes. -/
import Derived.Test.YtkjnjccjkjachaaBitsD
namespace Go.Proofs.Ytkjnjccjkjachaa
open Go.RowKit
set_option linter.unusedSimpArgs false
set_option maxRecDepth 100000

theorem bs_append (l : List UInt8) (s : ByteArray) : (⟨l.toArray⟩ : ByteArray) ++ s = ⟨(l ++ s.data.toList).toArray⟩ := by
  apply ByteArray.ext
  simp

/-- Cells of bytes as a text. -/
theorem run_string_cells {P : Program} (w : World) (src dst e : TypeId) (hs : P.underlying src = some (.slice e)) (he : P.underlying e = some (.int .u8)) (hd : P.underlying dst = some .string)
    (g n cap : Nat) (l : List UInt8) (hn : l.length = n) (hc : ∀ j (h : j < l.length), w.cell? ⟨g, j, none⟩ = some (.int .u8 l[j].toNat)) : (convert src dst (.slice (some ⟨g, 0, none⟩) n cap)).run P w = .ok (.string ⟨l.toArray⟩) w := by
  subst hn
  have hcell : ∀ j v, (bcells l)[j]? = some v → w.cell? ((⟨g, 0, none⟩ : Addr).add j) = some v := fun j v hj => by
    have hadd : (⟨g, 0, none⟩ : Addr).add j = ⟨g, j, none⟩ := by unfold Addr.add; split <;> simp_all
    have hjl : j < l.length := by have := (List.getElem?_eq_some_iff.1 hj).1; rwa [bcells_len] at this
    rw [hadd, hc j hjl]
    simp [bcells, List.getElem?_eq_getElem hjl] at hj
    rw [← hj]
  have hload := run_loadCells_list (P := P) (w := w) ⟨g, 0, none⟩ (bcells l) hcell
  rw [bcells_len] at hload
  have e1 : (bcells l).toArray = ((l.map fun b => ((b.toNat : Nat) : Int)).map (Value.int .u8)).toArray := by simp [bcells]
  rw [e1] at hload
  rw [run_convert_bytes_string w src dst e _ _ _ hs he hd, run_bytesToString w ⟨g, 0, none⟩ l.length cap _ hload, foldl_push]
  congr 2
  simp [ByteArray.empty, ByteArray.emptyWithCapacity]
  rfl

/-- A row that is being filled: the cells of 'd' are done. -/
structure Fill (w0 : World) (n : Nat) (f : Nat → UInt8) (d : Nat → Prop) (w : World) : Prop where
  bel : Below w0.heap.size w0 w
  gt : w0.heap.size < w.heap.size
  ok : ∀ j, j < n → ∃ v, w.cell? ⟨w0.heap.size, j, none⟩ = some v
  fr : ∀ j, j < n → w.frozen? ⟨w0.heap.size, j, none⟩ = false
  done : ∀ j, j < n → d j → w.cell? ⟨w0.heap.size, j, none⟩ = some (.int .u8 (f j).toNat)
theorem Fill.set {w0 w : World} {n : Nat} {f : Nat → UInt8} {d : Nat → Prop} (h : Fill w0 n f d w) {k : Nat} (hk : k < n) {z : Int} (hz : z = (f k).toNat) {d' : Nat → Prop} (hd : ∀ j, d' j → d j ∨ j = k) :
    Fill w0 n f d' (w.setCell ⟨w0.heap.size, k, none⟩ (.int .u8 z)) := by
  subst hz
  obtain ⟨v, hv⟩ := h.ok k hk
  refine ⟨h.bel.grown (grown_set w w0.heap.size k _) h.bel.size (by rintro j hj; cases hj; exact Nat.le_refl _), ?_, ?_, ?_, ?_⟩
  · simpa [World.setCell] using h.gt
  · intro j hj
    by_cases e : j = k
    · subst e; exact ⟨_, set_same _ hv⟩
    · obtain ⟨u, hu⟩ := h.ok j hj
      exact ⟨u, set_other _ (by intro h; injection h with _ h2; exact e h2.symm) hu⟩
  · intro j hj; rw [World.frozen?_setCell]; exact h.fr j hj
  · intro j hj hdj
    by_cases e : j = k
    · subst e; exact set_same _ hv
    · exact set_other _ (by intro h; injection h with _ h2; exact e h2.symm) (h.done j hj ((hd j hdj).resolve_right e))

theorem Fill.start (w0 : World) (n : Nat) (f : Nat → UInt8) (e : TypeId) (d : Nat → Prop) (hd : ∀ j, j < n → ¬ d j) : Fill w0 n f d (w0.alloc (.cells (madeCells #[.int .u8 0] n) e)) := by
  refine ⟨(Below.refl _ w0).alloc (Nat.le_refl _) _, by simp, ?_, ?_, ?_⟩
  · intro j hj
    refine ⟨.int .u8 0, ?_⟩
    simp [madeCells, hj, Nat.mod_one]
  · intro j hj
    simp
  · intro j hj h; exact absurd h (hd j hj)
end Go.Proofs.Ytkjnjccjkjachaa
