/- Slots: buried, State, Key. -/
import Derived.Test.YtkjnjccjkjachaaTupC
namespace Go.Proofs.Ytkjnjccjkjachaa
open Go.RowKit
set_option linter.unusedSimpArgs false

/-- A dead slot's key. -/
def burV (s : ByteArray) : Option ByteArray :=
  if endV (stepT (numOut s 4).2.1 (numOut s 4).2.2 24).2.1.size (stepT (numOut s 4).2.1 (numOut s 4).2.2 24).2.2 = 0 ∧ (numOut s 4).1 = 4 ∧ (stepT (numOut s 4).2.1 (numOut s 4).2.2 24).1.size ≠ 0 then some (stepT (numOut s 4).2.1 (numOut s 4).2.2 24).1 else none
def burRes : Option ByteArray → Value
  | some k => .tuple #[.string k, .bool true]
  | none => .tuple #[.string ⟨#[]⟩, .bool false]

set_option maxRecDepth 100000 in
set_option maxHeartbeats 1000000 in
theorem bur_c (s : ByteArray) (w : World) :
    Calls Try.prog 36 #[.string s] w fun e w' => e = .returned (burRes (burV s)) ∧ Below w.heap.size w w' := by
  have CR := Lib.hid (fun b w => num_r b s 4 w)
  have CT := Lib.hid (fun b w => text_any b (numOut s 4).2.1 (numOut s 4).2.2 24 w)
  have HD : Hid (burV s = if endV (stepT (numOut s 4).2.1 (numOut s 4).2.2 24).2.1.size (stepT (numOut s 4).2.1 (numOut s 4).2.2 24).2.2 = 0 ∧ (numOut s 4).1 = 4 ∧ (stepT (numOut s 4).2.1 (numOut s 4).2.2 24).1.size ≠ 0 then some (stepT (numOut s 4).2.1 (numOut s 4).2.2 24).1 else none) := rfl
  generalize numOut s 4 = o at CR CT HD
  obtain ⟨n, r1, c1⟩ := o
  generalize stepT (n, r1, c1).2.1 (n, r1, c1).2.2 24 = p at CT HD
  obtain ⟨k, r2, c2⟩ := p
  go_enter Try.func36, Try.ntmps36
  go_wp2_with fail
  refine (read_c s _).mono ?_
  rintro e w1 ⟨rfl, hr1, hb1, hz1⟩
  have HR1 := Lib.hid hr1
  have HB1 := Lib.hid hb1
  obtain ⟨b1, hbe⟩ : ∃ b1, b1 = w.heap.size := ⟨_, rfl⟩
  rw [← hbe] at HR1 ⊢
  have HBE := Lib.hid hbe
  clear hr1 hb1 hz1 hbe
  go_wp2_with fail
  refine (CR.out b1 _ HR1.out).mono ?_
  rintro e w2 ⟨rfl, hr2, hg2⟩
  have HR2 := Lib.hid hr2
  have HB2 := Lib.hid (HB1.out.grown hg2 HB1.out.size (by rintro j hj; cases hj; rw [HBE.out]; exact Nat.le_refl _))
  clear hr2 hg2
  go_wp2_with fail
  refine (CT.out b1 _ HR2.out).mono ?_
  rintro e w3 ⟨rfl, hr3, hg3⟩
  have HR3 := Lib.hid hr3
  have HB3 := Lib.hid (HB2.out.grown hg3 HB2.out.size (by rintro j hj; cases hj; rw [HBE.out]; exact Nat.le_refl _))
  clear hr3 hg3
  go_wp2_with fail
  refine (end_r b1 r2 c2 _ HR3.out).mono ?_
  rintro e w4 ⟨rfl, rfl⟩
  generalize endV r2.size c2 = E at *
  have hke := empty_iff k
  by_cases hE : E = 0
  · subst hE
    by_cases hn : n = 4
    · subst hn
      by_cases hk : k.size = 0
      · rw [decide_eq_true hk] at hke
        have HN : Hid (burV s = none) := by unfold Hid; rw [HD.out, if_neg]; exact fun h => h.2.2 hk
        clear hk
        go_wp2_with fail
        go_ret2
        rw [HN.out]
        exact ⟨rfl, HB3.out⟩
      · rw [decide_eq_false hk] at hke
        have HN : Hid (burV s = some k) := by unfold Hid; rw [HD.out, if_pos]; exact ⟨rfl, rfl, hk⟩
        clear hk
        go_wp2_with fail
        go_ret2
        rw [HN.out]
        exact ⟨rfl, HB3.out⟩
    · have hn1 : (n == 4) = false := by rw [beq_eq_false_iff_ne]; exact hn
      have hn2 : (n != 4) = true := by simp [bne, hn1]
      have HN : Hid (burV s = none) := by unfold Hid; rw [HD.out, if_neg]; exact fun h => hn h.2.1
      clear hn
      go_wp2_with fail
      go_ret2
      rw [HN.out]
      exact ⟨rfl, HB3.out⟩
  · have hE1 : (E == 0) = false := by rw [beq_eq_false_iff_ne]; exact hE
    have hE2 : (E != 0) = true := by simp [bne, hE1]
    have HN : Hid (burV s = none) := by unfold Hid; rw [HD.out, if_neg]; exact fun h => hE h.1
    clear hE
    go_wp2_with fail
    go_ret2
    rw [HN.out]
    exact ⟨rfl, HB3.out⟩

/-- A slot's state. -/
def stV (s : ByteArray) : Int := if s.size = 0 then 1 else if (decV s).isSome = true then 3 else if (burV s).isSome = true then 2 else 0

set_option maxRecDepth 100000 in
set_option maxHeartbeats 1000000 in
theorem state_c (s : ByteArray) (w : World) (hs : s.size ≤ 9223372036854775807) :
    Calls Try.prog 14 #[.string s] w fun e w' => e = .returned (.int .u8 (stV s)) ∧ Below w.heap.size w w' := by
  have hke := empty_iff s
  have CD := Lib.hid (fun w => dec_c s w hs)
  have CB := Lib.hid (fun w => bur_c s w)
  by_cases h0 : s.size = 0
  · have HS : Hid (stV s = 1) := by unfold Hid stV; rw [if_pos h0]
    rw [decide_eq_true h0] at hke
    clear h0 hs
    go_enter Try.func14, Try.ntmps14
    go_wp2_with fail
    refine (free_c _).mono ?_
    rintro e w1 ⟨rfl, rfl⟩
    go_wp2_with fail
    go_ret
    rw [HS.out]
    exact ⟨rfl, Below.refl _ _⟩
  · rw [decide_eq_false h0] at hke
    have HS : Hid (stV s = if (decV s).isSome = true then 3 else if (burV s).isSome = true then 2 else 0) := by unfold Hid stV; rw [if_neg h0]
    clear h0 hs
    generalize decV s = o at *
    generalize burV s = p at *
    cases o with
    | some t =>
      obtain ⟨x, y, f, k, v⟩ := t
      go_enter Try.func14, Try.ntmps14
      go_wp2_with fail
      refine (free_c _).mono ?_
      rintro e w1 ⟨rfl, rfl⟩
      go_wp2_with fail
      refine (CD.out _).mono ?_
      rintro e w2 ⟨rfl, hb2⟩
      have HB2 := Lib.hid hb2
      clear hb2
      simp only [decRes]
      go_wp2_with fail
      go_ret
      rw [HS.out]
      exact ⟨rfl, HB2.out.trans ((Below.refl _ w2).alloc HB2.out.size _)⟩
    | none =>
      go_enter Try.func14, Try.ntmps14
      go_wp2_with fail
      refine (free_c _).mono ?_
      rintro e w1 ⟨rfl, rfl⟩
      go_wp2_with fail
      refine (CD.out _).mono ?_
      rintro e w2 ⟨rfl, hb2⟩
      have HB2 := Lib.hid (hb2.trans ((Below.refl _ w2).alloc hb2.size (.cells #[.int .i64 0, .int .i64 0, .bool false, .string ⟨#[]⟩, .string ⟨#[]⟩] 26)))
      clear hb2
      simp only [decRes]
      cases p with
      | some k =>
        go_wp2_with fail
        refine (CB.out _).mono ?_
        rintro e w3 ⟨rfl, hb3⟩
        have HB3 := Lib.hid (HB2.out.trans (hb3.mono HB2.out.size))
        clear hb3
        simp only [burRes]
        go_wp2_with fail
        go_ret
        rw [HS.out]
        exact ⟨rfl, HB3.out⟩
      | none =>
        go_wp2_with fail
        refine (CB.out _).mono ?_
        rintro e w3 ⟨rfl, hb3⟩
        have HB3 := Lib.hid (HB2.out.trans (hb3.mono HB2.out.size))
        clear hb3
        simp only [burRes]
        go_wp2_with fail
        go_ret
        rw [HS.out]
        exact ⟨rfl, HB3.out⟩

/-- A slot's key. -/
def keyV (s : ByteArray) : Option ByteArray :=
  match decV s with
  | some (_, _, _, k, _) => some k
  | none => burV s

set_option maxRecDepth 100000 in
set_option maxHeartbeats 1000000 in
theorem key_c (s : ByteArray) (w : World) (hs : s.size ≤ 9223372036854775807) :
    Calls Try.prog 34 #[.string s] w fun e w' => e = .returned (burRes (keyV s)) ∧ Below w.heap.size w w' := by
  have CD := Lib.hid (fun w => dec_c s w hs)
  have CB := Lib.hid (fun w => bur_c s w)
  have HK : Hid (keyV s = match decV s with | some (_, _, _, k, _) => some k | none => burV s) := rfl
  clear hs
  generalize decV s = o at *
  generalize burV s = p at *
  cases o with
  | some t =>
    obtain ⟨x, y, f, k, v⟩ := t
    go_enter Try.func34, Try.ntmps34
    go_wp2_with fail
    refine (CD.out _).mono ?_
    rintro e w2 ⟨rfl, hb2⟩
    have HB2 := Lib.hid (hb2.trans ((Below.refl _ w2).alloc hb2.size (.cells #[.int .i64 x, .int .i64 y, .bool f, .string k, .string v] 26)))
    clear hb2
    simp only [decRes]
    go_wp2_with fail
    go_ret2
    rw [HK.out]
    exact ⟨rfl, HB2.out⟩
  | none =>
    go_enter Try.func34, Try.ntmps34
    go_wp2_with fail
    refine (CD.out _).mono ?_
    rintro e w2 ⟨rfl, hb2⟩
    have HB2 := Lib.hid (hb2.trans ((Below.refl _ w2).alloc hb2.size (.cells #[.int .i64 0, .int .i64 0, .bool false, .string ⟨#[]⟩, .string ⟨#[]⟩] 26)))
    clear hb2
    simp only [decRes]
    cases p with
    | some k =>
      go_wp2_with fail
      refine (CB.out _).mono ?_
      rintro e w3 ⟨rfl, hb3⟩
      have HB3 := Lib.hid (HB2.out.trans (hb3.mono HB2.out.size))
      clear hb3
      simp only [burRes]
      go_wp2_with fail
      go_ret2
      rw [HK.out]
      exact ⟨rfl, HB3.out⟩
    | none =>
      go_wp2_with fail
      refine (CB.out _).mono ?_
      rintro e w3 ⟨rfl, hb3⟩
      have HB3 := Lib.hid (HB2.out.trans (hb3.mono HB2.out.size))
      clear hb3
      simp only [burRes]
      go_wp2_with fail
      go_ret2
      rw [HK.out]
      exact ⟨rfl, HB3.out⟩
end Go.Proofs.Ytkjnjccjkjachaa
