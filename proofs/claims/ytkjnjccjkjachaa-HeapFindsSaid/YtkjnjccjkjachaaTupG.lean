/- The walks of TupleBack and TupleThere. -/
import Derived.Test.YtkjnjccjkjachaaTupF
namespace Go.Proofs.Ytkjnjccjkjachaa
open Go.RowKit
set_option linter.unusedSimpArgs false
set_option maxRecDepth 100000

theorem txl_len1 {s : ByteArray} (h : s.size < 128) : (txl s).length = 1 + s.size := by
  have h2 : s.data.toList.length = s.size := Array.length_toList
  unfold txl
  rw [sev_low h, List.length_append, h2]
  rfl
theorem encL_len {x y : Int} {f : Bool} {k v : ByteArray} (h : encok x y k v = true) : (encL x y f k v).length = 7 + k.size + v.size := by
  obtain ⟨_, _, _, _, _, h1, h2⟩ := encok_yes h
  unfold encL
  simp only [List.length_cons, List.length_append, bigL_len, txl_len1 (s := k) (by omega), txl_len1 (s := v) (by omega)]
  omega
theorem key_enc {x y : Int} {f : Bool} {k v : ByteArray} (h : encok x y k v = true) : keyV ⟨(encL x y f k v).toArray⟩ = some k := by
  unfold keyV; rw [dec_enc x y f k v h]
theorem key_dead {k : ByteArray} (h : kok k = true) : keyV ⟨(deadL k).toArray⟩ = some k := by
  unfold keyV; rw [dec_dead]; exact bur_dead k h
theorem deadL_len {k : ByteArray} (h : kok k = true) : (deadL k).length = 2 + k.size := by
  unfold deadL
  have := (kok_yes h).2
  rw [List.length_cons, txl_len1 (by omega)]
  omega

end Go.Proofs.Ytkjnjccjkjachaa
