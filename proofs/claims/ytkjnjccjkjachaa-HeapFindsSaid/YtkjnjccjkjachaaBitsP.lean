/- The reference's reader: texts; both readers at any error. -/
import Derived.Test.YtkjnjccjkjachaaBitsO
namespace Go.Proofs.Ytkjnjccjkjachaa
open Go.RowKit
set_option linter.unusedSimpArgs false
set_option maxRecDepth 100000

theorem sub_mid (s : ByteArray) (a n : Nat) : s.extract a (a + n) = ⟨((s.data.toList.drop a).take n).toArray⟩ := by
  apply ByteArray.ext
  apply Array.ext'
  rw [ByteArray.data_extract, Array.toList_extract, List.extract_eq_take_drop]
  have e : a + n - a = n := by omega
  rw [e, List.toList_toArray]
theorem dropS_size (s : ByteArray) (a : Nat) : (dropS s a).size = s.size - a := by
  show (s.data.toList.drop a).toArray.size = _
  rw [List.size_toArray, List.length_drop, Array.length_toList]; rfl
theorem dropS_drop (s : ByteArray) (a n : Nat) : (⟨((dropS s a).data.toList.drop n).toArray⟩ : ByteArray) = dropS s (a + n) := by
  rw [dropS_list, List.drop_drop]; rfl

/-- What a taking of a number does at any error. -/
def stepN (rest : ByteArray) (c most : Int) : Int × ByteArray × Int := if c = 0 then numOut rest most else (0, rest, c)
def stepT (rest : ByteArray) (c most : Int) : ByteArray × ByteArray × Int := if c = 0 then textOut rest most else (⟨#[]⟩, rest, c)

theorem textOut_err (s : ByteArray) (most : Int) (h : (textOut s most).2.2 ≠ 0) : (textOut s most).2.1 = ⟨#[]⟩ := by
  rcases numOut_cases s most with ⟨c, hn, hc⟩ | ⟨n, r, hn⟩
  · have e : textOut s most = (⟨#[]⟩, ⟨#[]⟩, (c : Int)) := by unfold textOut; rw [hn]; simp; omega
    rw [e]
  · have e : textOut s most = if (r.size : Int) < n then (⟨#[]⟩, ⟨#[]⟩, 10) else (⟨(r.data.toList.take n).toArray⟩, ⟨(r.data.toList.drop n).toArray⟩, 0) := by unfold textOut; rw [hn]; simp
    rw [e] at h ⊢
    by_cases hl : (r.size : Int) < n
    · rw [if_pos hl]
    · rw [if_neg hl] at h; exact absurd rfl h
theorem stepN_err (rest : ByteArray) (c most : Int) (he : c ≠ 0 → rest = ⟨#[]⟩) (h : (stepN rest c most).2.2 ≠ 0) : (stepN rest c most).2.1 = ⟨#[]⟩ := by
  unfold stepN at *
  by_cases hc : c = 0
  · rw [if_pos hc] at *
    rcases numOut_cases rest most with ⟨c, hn, hc⟩ | ⟨n, r, hn⟩
    · rw [hn]
    · rw [hn] at h; exact absurd rfl h
  · rw [if_neg hc] at *; exact he hc
theorem stepT_err (rest : ByteArray) (c most : Int) (he : c ≠ 0 → rest = ⟨#[]⟩) (h : (stepT rest c most).2.2 ≠ 0) : (stepT rest c most).2.1 = ⟨#[]⟩ := by
  unfold stepT at *
  by_cases hc : c = 0
  · rw [if_pos hc] at *; exact textOut_err _ _ h
  · rw [if_neg hc] at *; exact he hc

theorem num_any (br : Nat) (rest : ByteArray) (c most : Int) (w : World) (h : RdV w br rest c) :
    Calls Try.prog 50 #[.pointer (some ⟨br, 0, none⟩), .int .i64 most] w fun e w' =>
      e = .returned (.int .i64 (stepN rest c most).1) ∧ RdV w' br (stepN rest c most).2.1 (stepN rest c most).2.2 ∧ w.grownBy w' (some br) := by
  by_cases hc : c = 0
  · subst hc; exact num_r br rest most w h
  · refine (num_err br rest c most w h hc).mono ?_
    rintro e w' ⟨rfl, rfl⟩
    unfold stepN; rw [if_neg hc]
    exact ⟨rfl, h, grown_row (grown_of (Below.refl _ _)) _⟩
theorem text_any (br : Nat) (rest : ByteArray) (c most : Int) (w : World) (h : RdV w br rest c) :
    Calls Try.prog 47 #[.pointer (some ⟨br, 0, none⟩), .int .i64 most] w fun e w' =>
      e = .returned (.string (stepT rest c most).1) ∧ RdV w' br (stepT rest c most).2.1 (stepT rest c most).2.2 ∧ w.grownBy w' (some br) := by
  by_cases hc : c = 0
  · subst hc; exact text_r br rest most w h
  · refine (text_err br rest c most w h hc).mono ?_
    rintro e w' ⟨rfl, rfl⟩
    unfold stepT; rw [if_neg hc]
    exact ⟨rfl, h, grown_row (grown_of (Below.refl _ _)) _⟩
end Go.Proofs.Ytkjnjccjkjachaa
