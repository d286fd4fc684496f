/- The reference's reader: texts; both readers at any error. -/
import Derived.Test.YtioinjnignajnaaBitsO
namespace Go.Proofs.Ytioinjnignajnaa
open Go.RowKit
set_option linter.unusedSimpArgs false

theorem rftext_err (bx : Nat) (s : ByteArray) (a : Nat) (c most : Int) (w : World) (h : RfV w bx s a c) (hc : c ≠ 0) :
    Calls Try.prog 39 #[.pointer (some ⟨bx, 0, none⟩), .int .i64 most] w fun e w' => e = .returned (.string ⟨#[]⟩) ∧ Below w.heap.size w w' := by
  have h1 := h.err
  have hc' : (c == 0) = false := by rw [beq_eq_false_iff_ne]; exact hc
  have H := Lib.hid h
  have HC := Lib.hid hc
  clear h hc
  go_enter Try.func39, Try.ntmps39
  go_wp2_with fail
  refine (rfnum_err bx s a c most _ H.out HC.out).mono ?_
  rintro e w' ⟨rfl, rfl⟩
  go_wp2_with fail
  go_quiet (fail)
  go_wp2_with fail
  go_ret
  exact ⟨rfl, below_drewN _ _⟩

theorem sub_mid (s : ByteArray) (a n : Nat) : s.extract a (a + n) = ⟨((s.data.toList.drop a).take n).toArray⟩ := by
  apply ByteArray.ext
  apply Array.ext'
  rw [ByteArray.data_extract, Array.toList_extract, List.extract_eq_take_drop]
  have e : a + n - a = n := by omega
  rw [e, List.toList_toArray]
theorem dropS_size (s : ByteArray) (a : Nat) : (dropS s a).size = s.size - a := by
  show (s.data.toList.drop a).toArray.size = _
  rw [List.size_toArray, List.length_drop, Array.length_toList]; rfl
theorem dropS_drop (s : ByteArray) (a n : Nat) : (⟨((dropS s a).data.toList.drop n).toArray⟩ : ByteArray) = dropS s (a + n) := by
  rw [dropS_list, List.drop_drop]; rfl

set_option maxRecDepth 100000 in
set_option maxHeartbeats 2000000 in
theorem rftext_c (bx : Nat) (s : ByteArray) (a : Nat) (most : Int) (w : World) (h : RfV w bx s a 0) (hs : s.size ≤ 9223372036854775000) :
    Calls Try.prog 39 #[.pointer (some ⟨bx, 0, none⟩), .int .i64 most] w fun e w' =>
      e = .returned (.string (textOut (dropS s a) most).1) ∧ (∃ a', RfV w' bx s a' (textOut (dropS s a) most).2.2 ∧ ((textOut (dropS s a) most).2.2 = 0 → (textOut (dropS s a) most).2.1 = dropS s a')) ∧ w.grownBy w' (some bx) := by
  have H := Lib.hid h
  clear h
  rcases numOut_cases (dropS s a) most with ⟨c, hn, hc⟩ | ⟨n, r, hn⟩
  · have HT : Hid (textOut (dropS s a) most = (⟨#[]⟩, ⟨#[]⟩, (c : Int))) := by
      unfold Hid textOut; rw [hn]; simp; omega
    have HN := Lib.hid hn
    have hc0 : ((c : Int) == 0) = false := by rw [beq_eq_false_iff_ne]; omega
    have HC : Hid ((c : Int) ≠ 0) := by unfold Hid; omega
    clear hn hc
    go_enter Try.func39, Try.ntmps39
    go_wp2_with fail
    refine (rfnum_c bx s a most _ H.out hs).mono ?_
    rw [HN.out]
    rintro e w1 ⟨rfl, ⟨a1, hr, _⟩, hg⟩
    have h1 := hr.err
    have HR := Lib.hid hr
    have HG := Lib.hid hg
    clear hr hg
    go_wp2_with fail
    go_quiet (fail)
    go_wp2_with fail
    go_ret
    rw [HT.out]
    exact ⟨rfl, ⟨a1, HR.out.drewN _, fun h => absurd h HC.out⟩, grown_trans HG.out (grown_row (grown_of (below_drewN w1 nq)) _)⟩
  · have HN := Lib.hid hn
    have HTX : Hid (textOut (dropS s a) most = if (r.size : Int) < n then (⟨#[]⟩, ⟨#[]⟩, 10) else (⟨(r.data.toList.take n).toArray⟩, ⟨(r.data.toList.drop n).toArray⟩, 0)) := by
      unfold Hid textOut; rw [hn]; simp
    clear hn
    go_enter Try.func39, Try.ntmps39
    go_wp2_with fail
    refine (rfnum_c bx s a most _ H.out hs).mono ?_
    rw [HN.out]
    rintro e w1 ⟨rfl, ⟨a1, hr, hd⟩, hg⟩
    have hd' : r = dropS s a1 := hd rfl
    subst hd'
    rw [dropS_size] at HTX
    have hle := hr.le
    have h0 := hr.str
    have h1 := hr.at'
    have h2 := hr.err
    have HR := Lib.hid hr
    have HG := Lib.hid hg
    clear hr hg hd HN
    have hw1 : IntKind.i64.wrap ((s.size : Int) - (a1 : Int)) = (s.size : Int) - a1 := IntWalk.i64_in _ (by omega)
    by_cases hlt : (s.size : Int) - a1 < n
    · have HT : Hid (textOut (dropS s a) most = (⟨#[]⟩, ⟨#[]⟩, 10)) := by unfold Hid; rw [HTX.out, if_pos (by omega)]
      clear HTX
      go_wp2_with fail
      go_quiet (fail)
      go_wp2_with fail
      refine (wrong_c bx s a1 0 10 _ (HR.out.drewN _)).mono ?_
      rintro e w2 ⟨rfl, hr2, hg2⟩
      have h3 := hr2.err
      have HR2 := Lib.hid hr2
      have HG2 := Lib.hid (grown_trans HG.out (grown_trans (grown_row (grown_of (below_drewN w1 nq)) _) hg2))
      clear hr2 hg2
      go_wp2_with fail
      go_ret
      rw [HT.out]
      exact ⟨rfl, ⟨a1, HR2.out, fun h => by cases h⟩, HG2.out⟩
    · have HT : Hid (textOut (dropS s a) most = (⟨((s.data.toList.drop a1).take n).toArray⟩, dropS s (a1 + n), 0)) := by
        unfold Hid; rw [HTX.out, if_neg (by omega), dropS_list, ← dropS_drop, dropS_list]
      have HS1 := Lib.hid (sub_mid s a1 n)
      have hw2 : IntKind.i64.wrap ((a1 : Int) + (n : Int)) = (a1 : Int) + n := IntWalk.i64_in _ (by omega)
      clear HTX
      go_wp2_with fail
      go_quiet (fail)
      go_wp2_with fail
      have HR1 := Lib.hid (HR.out.drewN nq)
      have HG1 := Lib.hid (grown_trans HG.out (grown_row (grown_of (below_drewN w1 nq)) _))
      generalize w1.drewN nq = wq at *
      have h0' := HR1.out.str
      have h1' := HR1.out.at'
      have h2' := HR1.out.err
      go_wp2_with fail
      go_quiet (fail)
      have HR2 := Lib.hid (HR1.out.drewN nq)
      have HG2 := Lib.hid (grown_trans HG1.out (grown_row (grown_of (below_drewN wq nq)) _))
      generalize wq.drewN nq = wz at *
      have h1z := HR2.out.at'
      have hfz := HR2.out.f1
      go_wp2_with fail
      go_ret
      rw [HT.out]

      exact ⟨by rw [← HS1.out]; rfl, ⟨a1 + n, HR2.out.setA (by omega), fun _ => rfl⟩, grown_trans HG2.out (grown_set _ _ _ _)⟩

/-- What a taking of a number does at any error. -/
def stepN (rest : ByteArray) (c most : Int) : Int × ByteArray × Int := if c = 0 then numOut rest most else (0, rest, c)
def stepT (rest : ByteArray) (c most : Int) : ByteArray × ByteArray × Int := if c = 0 then textOut rest most else (⟨#[]⟩, rest, c)

theorem textOut_err (s : ByteArray) (most : Int) (h : (textOut s most).2.2 ≠ 0) : (textOut s most).2.1 = ⟨#[]⟩ := by
  rcases numOut_cases s most with ⟨c, hn, hc⟩ | ⟨n, r, hn⟩
  · have e : textOut s most = (⟨#[]⟩, ⟨#[]⟩, (c : Int)) := by unfold textOut; rw [hn]; simp; omega
    rw [e]
  · have e : textOut s most = if (r.size : Int) < n then (⟨#[]⟩, ⟨#[]⟩, 10) else (⟨(r.data.toList.take n).toArray⟩, ⟨(r.data.toList.drop n).toArray⟩, 0) := by unfold textOut; rw [hn]; simp
    rw [e] at h ⊢
    by_cases hl : (r.size : Int) < n
    · rw [if_pos hl]
    · rw [if_neg hl] at h; exact absurd rfl h
theorem stepN_err (rest : ByteArray) (c most : Int) (he : c ≠ 0 → rest = ⟨#[]⟩) (h : (stepN rest c most).2.2 ≠ 0) : (stepN rest c most).2.1 = ⟨#[]⟩ := by
  unfold stepN at *
  by_cases hc : c = 0
  · rw [if_pos hc] at *
    rcases numOut_cases rest most with ⟨c, hn, hc⟩ | ⟨n, r, hn⟩
    · rw [hn]
    · rw [hn] at h; exact absurd rfl h
  · rw [if_neg hc] at *; exact he hc
theorem stepT_err (rest : ByteArray) (c most : Int) (he : c ≠ 0 → rest = ⟨#[]⟩) (h : (stepT rest c most).2.2 ≠ 0) : (stepT rest c most).2.1 = ⟨#[]⟩ := by
  unfold stepT at *
  by_cases hc : c = 0
  · rw [if_pos hc] at *; exact textOut_err _ _ h
  · rw [if_neg hc] at *; exact he hc

theorem num_any (br : Nat) (rest : ByteArray) (c most : Int) (w : World) (h : RdV w br rest c) :
    Calls Try.prog 43 #[.pointer (some ⟨br, 0, none⟩), .int .i64 most] w fun e w' =>
      e = .returned (.int .i64 (stepN rest c most).1) ∧ RdV w' br (stepN rest c most).2.1 (stepN rest c most).2.2 ∧ w.grownBy w' (some br) := by
  by_cases hc : c = 0
  · subst hc; exact num_r br rest most w h
  · refine (num_err br rest c most w h hc).mono ?_
    rintro e w' ⟨rfl, rfl⟩
    unfold stepN; rw [if_neg hc]
    exact ⟨rfl, h, grown_row (grown_of (Below.refl _ _)) _⟩
theorem text_any (br : Nat) (rest : ByteArray) (c most : Int) (w : World) (h : RdV w br rest c) :
    Calls Try.prog 35 #[.pointer (some ⟨br, 0, none⟩), .int .i64 most] w fun e w' =>
      e = .returned (.string (stepT rest c most).1) ∧ RdV w' br (stepT rest c most).2.1 (stepT rest c most).2.2 ∧ w.grownBy w' (some br) := by
  by_cases hc : c = 0
  · subst hc; exact text_r br rest most w h
  · refine (text_err br rest c most w h hc).mono ?_
    rintro e w' ⟨rfl, rfl⟩
    unfold stepT; rw [if_neg hc]
    exact ⟨rfl, h, grown_row (grown_of (Below.refl _ _)) _⟩
theorem rfnum_any (bx : Nat) (s rest : ByteArray) (a : Nat) (c most : Int) (w : World) (h : RfV w bx s a c) (hr : c = 0 → rest = dropS s a) (hs : s.size ≤ 9223372036854775000) :
    Calls Try.prog 47 #[.pointer (some ⟨bx, 0, none⟩), .int .i64 most] w fun e w' =>
      e = .returned (.int .i64 (stepN rest c most).1) ∧ (∃ a', RfV w' bx s a' (stepN rest c most).2.2 ∧ ((stepN rest c most).2.2 = 0 → (stepN rest c most).2.1 = dropS s a')) ∧ w.grownBy w' (some bx) := by
  by_cases hc : c = 0
  · subst hc; obtain rfl := hr rfl; exact rfnum_c bx s a most w h hs
  · refine (rfnum_err bx s a c most w h hc).mono ?_
    rintro e w' ⟨rfl, rfl⟩
    unfold stepN; rw [if_neg hc]
    exact ⟨rfl, ⟨a, h, fun h => absurd h hc⟩, grown_row (grown_of (Below.refl _ _)) _⟩
theorem rftext_any (bx : Nat) (s rest : ByteArray) (a : Nat) (c most : Int) (w : World) (h : RfV w bx s a c) (hr : c = 0 → rest = dropS s a) (hs : s.size ≤ 9223372036854775000) :
    Calls Try.prog 39 #[.pointer (some ⟨bx, 0, none⟩), .int .i64 most] w fun e w' =>
      e = .returned (.string (stepT rest c most).1) ∧ (∃ a', RfV w' bx s a' (stepT rest c most).2.2 ∧ ((stepT rest c most).2.2 = 0 → (stepT rest c most).2.1 = dropS s a')) ∧ w.grownBy w' (some bx) := by
  by_cases hc : c = 0
  · subst hc; obtain rfl := hr rfl; exact rftext_c bx s a most w h hs
  · refine (rftext_err bx s a c most w h hc).mono ?_
    rintro e w' ⟨rfl, hb⟩
    unfold stepT; rw [if_neg hc]
    exact ⟨rfl, ⟨a, h.below hb, fun h => absurd h hc⟩, grown_row (grown_of hb) _⟩
end Go.Proofs.Ytioinjnignajnaa
