/- The reader's texts; awake. -/
import Derived.Test.YtkjnjccjkjachaaBitsI
namespace Go.Proofs.Ytkjnjccjkjachaa
open Go.RowKit
set_option linter.unusedSimpArgs false
set_option maxRecDepth 100000

/-- What a text's taking does. -/
def textOut (s : ByteArray) (most : Int) : ByteArray × ByteArray × Int :=
  let o := numOut s most
  if o.2.2 ≠ 0 then (⟨#[]⟩, o.2.1, o.2.2)
  else if (o.2.1.size : Int) < o.1 then (⟨#[]⟩, ⟨#[]⟩, 10)
  else (⟨(o.2.1.data.toList.take o.1.toNat).toArray⟩, ⟨(o.2.1.data.toList.drop o.1.toNat).toArray⟩, 0)

theorem numOut_cases (s : ByteArray) (most : Int) : (∃ c : Nat, numOut s most = (0, ⟨#[]⟩, (c : Int)) ∧ (c = 10 ∨ c = 11)) ∨ ∃ (n : Nat) (r : ByteArray), numOut s most = ((n : Int), r, 0) := by
  have h : ∀ f k n l, (∃ c, rd most f k n l = .inl c ∧ (c = 10 ∨ c = 11)) ∨ ∃ x, rd most f k n l = .inr x := by
    intro f
    induction f with
    | zero => intro k n l; exact .inl ⟨11, by rw [rd], by omega⟩
    | succ f ih =>
      intro k n l
      cases l with
      | nil => exact .inl ⟨10, by rw [rd], by omega⟩
      | cons b l =>
        rw [rd]
        split
        · exact .inl ⟨11, rfl, by omega⟩
        · split
          · exact ih _ _ _
          · split
            · exact .inl ⟨11, rfl, by omega⟩
            · exact .inr ⟨_, rfl⟩
  unfold numOut
  rcases h 9 0 0 s.data.toList with ⟨c, hc, hc'⟩ | ⟨⟨n, k⟩, hx⟩
  · rw [hc]; exact .inl ⟨c, rfl, hc'⟩
  · rw [hx]; exact .inr ⟨n, _, rfl⟩

theorem text_err (br : Nat) (s : ByteArray) (c most : Int) (w : World) (h : RdV w br s c) (hc : c ≠ 0) :
    Calls Try.prog 47 #[.pointer (some ⟨br, 0, none⟩), .int .i64 most] w fun e w' => e = .returned (.string ⟨#[]⟩) ∧ w = w' := by
  have h1 := h.err
  have hc' : (c == 0) = false := by rw [beq_eq_false_iff_ne]; exact hc
  have H := Lib.hid h
  have HC := Lib.hid hc
  clear h hc
  go_enter Try.func47, Try.ntmps47
  go_wp2_with fail
  refine (num_err br s c most _ H.out HC.out).mono ?_
  rintro e w' ⟨rfl, rfl⟩
  go_wp2_with fail
  go_ret
  exact ⟨rfl, rfl⟩

set_option maxHeartbeats 1000000 in
theorem text_r (br : Nat) (s : ByteArray) (most : Int) (w : World) (h : RdV w br s 0) :
    Calls Try.prog 47 #[.pointer (some ⟨br, 0, none⟩), .int .i64 most] w fun e w' =>
      e = .returned (.string (textOut s most).1) ∧ RdV w' br (textOut s most).2.1 (textOut s most).2.2 ∧ w.grownBy w' (some br) := by
  have H := Lib.hid h
  clear h
  rcases numOut_cases s most with ⟨c, hn, hc⟩ | ⟨n, r, hn⟩
  · have HT : Hid (textOut s most = (⟨#[]⟩, ⟨#[]⟩, (c : Int))) := by
      unfold Hid textOut; rw [hn]; simp; omega
    have HN := Lib.hid hn
    have hc0 : ((c : Int) == 0) = false := by rw [beq_eq_false_iff_ne]; omega
    clear hn
    go_enter Try.func47, Try.ntmps47
    go_wp2_with fail
    refine (num_r br s most _ H.out).mono ?_
    rw [HN.out]
    rintro e w1 ⟨rfl, hr, hg⟩
    have h1 := hr.err
    have HR := Lib.hid hr
    clear hr
    go_wp2_with fail
    go_ret
    rw [HT.out]
    exact ⟨rfl, HR.out, hg⟩
  · have HN := Lib.hid hn
    have HTX : Hid (textOut s most = if (r.size : Int) < n then (⟨#[]⟩, ⟨#[]⟩, 10) else (⟨(r.data.toList.take n).toArray⟩, ⟨(r.data.toList.drop n).toArray⟩, 0)) := by
      unfold Hid textOut; rw [hn]; simp
    clear hn
    by_cases hlt : r.size < n
    · have HT : Hid (textOut s most = (⟨#[]⟩, ⟨#[]⟩, 10)) := by unfold Hid; rw [HTX.out, if_pos (by omega)]
      clear HTX
      go_enter Try.func47, Try.ntmps47
      go_wp2_with fail
      refine (num_r br s most _ H.out).mono ?_
      rw [HN.out]
      rintro e w1 ⟨rfl, hr, hg⟩
      have h0 := hr.rest
      have h1 := hr.err
      have HR := Lib.hid hr
      clear hr
      go_wp2_with fail
      refine (fail_c br r 0 10 _ HR.out).mono ?_
      rintro e w2 ⟨rfl, hr2, hg2⟩
      have HR2 := Lib.hid hr2
      clear hr2
      go_wp2_with fail
      go_ret
      rw [HT.out]
      exact ⟨rfl, HR2.out, grown_trans hg hg2⟩
    · have HT : Hid (textOut s most = (⟨(r.data.toList.take n).toArray⟩, ⟨(r.data.toList.drop n).toArray⟩, 0)) := by unfold Hid; rw [HTX.out, if_neg (by omega)]
      have HS1 := Lib.hid (sub_take r n)
      have HS2 := Lib.hid (sub_drop r n)
      clear HTX
      go_enter Try.func47, Try.ntmps47
      go_wp2_with fail
      refine (num_r br s most _ H.out).mono ?_
      rw [HN.out]
      rintro e w1 ⟨rfl, hr, hg⟩
      have h0 := hr.rest
      have h1 := hr.err
      have hf := hr.f0
      have HR := Lib.hid hr
      clear hr
      go_wp2_with fail
      go_ret
      rw [HT.out]
      exact ⟨by rw [← HS1.out]; rfl, by rw [← HS2.out]; exact HR.out.setS _, grown_trans hg (grown_set _ _ _ _)⟩
end Go.Proofs.Ytkjnjccjkjachaa
