/- awake; the walks of TupleWrites, TupleBack, TupleThere. -/
import Derived.Test.YtkjnjccjkjachaaTupE
namespace Go.Proofs.Ytkjnjccjkjachaa
open Go.RowKit
set_option linter.unusedSimpArgs false
set_option maxRecDepth 100000

theorem ex_enc : encL 3 0 false ⟨#[107]⟩ ⟨#[118, 118]⟩ = [1, 0, 3, 0, 0, 1, 107, 2, 118, 118] := by
  have h1 : txl ⟨#[107]⟩ = [1, 107] := by unfold txl; rw [show ByteArray.size ⟨#[107]⟩ = 1 from rfl, sev_low (by decide)]; rfl
  have h2 : txl ⟨#[118, 118]⟩ = [2, 118, 118] := by unfold txl; rw [show ByteArray.size ⟨#[118, 118]⟩ = 2 from rfl, sev_low (by decide)]; rfl
  unfold encL
  rw [h1, h2, show Int.toNat 3 = 3 from rfl, show Int.toNat 0 = 0 from rfl, bigL2, bigL2]
  rfl
theorem ex_dead : deadL ⟨#[107]⟩ = [4, 1, 107] := by
  have h1 : txl ⟨#[107]⟩ = [1, 107] := by unfold txl; rw [show ByteArray.size ⟨#[107]⟩ = 1 from rfl, sev_low (by decide)]; rfl
  unfold deadL; rw [h1]
theorem ex_ok : encok 3 0 ⟨#[107]⟩ ⟨#[118, 118]⟩ = true := by
  have h1 : ByteArray.size ⟨#[107]⟩ = 1 := rfl
  have h2 : ByteArray.size ⟨#[118, 118]⟩ = 2 := rfl
  simp [encok, h1, h2]
theorem ex_kok : kok ⟨#[107]⟩ = true := by
  have h1 : ByteArray.size ⟨#[107]⟩ = 1 := rfl
  simp [kok, h1]
theorem st_enc {x y : Int} {f : Bool} {k v : ByteArray} (h : encok x y k v = true) : stV ⟨(encL x y f k v).toArray⟩ = 3 := by
  unfold stV
  rw [if_neg (by rw [mk_size]; unfold encL; simp), dec_enc x y f k v h]
  rfl
theorem st_dead {k : ByteArray} (h : kok k = true) : stV ⟨(deadL k).toArray⟩ = 2 := by
  unfold stV
  rw [if_neg (by rw [mk_size]; unfold deadL; simp), dec_dead, if_neg (by simp), bur_dead k h]
  rfl
theorem st_five : stV ⟨([5] : List UInt8).toArray⟩ = 0 := by
  have hd : decV ⟨([5] : List UInt8).toArray⟩ = none := by unfold decV; rw [if_neg]; rintro ⟨h, _⟩; rw [mk_size] at h; simp at h
  have hb : burV ⟨([5] : List UInt8).toArray⟩ = none := by
    cases hb : burV ⟨([5] : List UInt8).toArray⟩ with
    | none => rfl
    | some k =>
      have := (dead_bur _ k hb).1
      rw [List.toList_toArray] at this
      unfold deadL at this
      injection this with h _
      exact absurd h (by decide)
  unfold stV
  rw [if_neg (by rw [mk_size]; simp), hd, hb]
  rfl
theorem st_none : stV ⟨#[]⟩ = 1 := by unfold stV; rw [if_pos (show ByteArray.size ⟨#[]⟩ = 0 from rfl)]

/-- The argument of a law, boxed. -/
structure Bx (W wx : World) (bt : Nat) (x y : Int) (f : Bool) (k v : ByteArray) : Prop where
  tb : TB wx bt x y f k v
  bel : Below W.heap.size W wx
theorem Bx.below {W wx w' : World} {bt : Nat} {x y : Int} {f : Bool} {k v : ByteArray} (h : Bx W wx bt x y f k v) (hb : Below wx.heap.size wx w') : Bx W w' bt x y f k v := ⟨h.tb.below hb, h.bel.trans (hb.mono h.bel.size)⟩

end Go.Proofs.Ytkjnjccjkjachaa
