/- awake; the walks of TupleWrites, TupleBack, TupleThere. -/
import Derived.Test.YtioinjnignajnaaTupE
namespace Go.Proofs.Ytioinjnignajnaa
open Go.RowKit
set_option linter.unusedSimpArgs false

theorem ex_enc : encL 3 0 false ⟨#[107]⟩ ⟨#[118, 118]⟩ = [1, 0, 3, 0, 0, 1, 107, 2, 118, 118] := by
  have h1 : txl ⟨#[107]⟩ = [1, 107] := by unfold txl; rw [show ByteArray.size ⟨#[107]⟩ = 1 from rfl, sev_low (by decide)]; rfl
  have h2 : txl ⟨#[118, 118]⟩ = [2, 118, 118] := by unfold txl; rw [show ByteArray.size ⟨#[118, 118]⟩ = 2 from rfl, sev_low (by decide)]; rfl
  unfold encL
  rw [h1, h2, show Int.toNat 3 = 3 from rfl, show Int.toNat 0 = 0 from rfl, bigL2, bigL2]
  rfl
theorem ex_dead : deadL ⟨#[107]⟩ = [4, 1, 107] := by
  have h1 : txl ⟨#[107]⟩ = [1, 107] := by unfold txl; rw [show ByteArray.size ⟨#[107]⟩ = 1 from rfl, sev_low (by decide)]; rfl
  unfold deadL; rw [h1]
theorem ex_ok : encok 3 0 ⟨#[107]⟩ ⟨#[118, 118]⟩ = true := by
  have h1 : ByteArray.size ⟨#[107]⟩ = 1 := rfl
  have h2 : ByteArray.size ⟨#[118, 118]⟩ = 2 := rfl
  simp [encok, h1, h2]
theorem ex_kok : kok ⟨#[107]⟩ = true := by
  have h1 : ByteArray.size ⟨#[107]⟩ = 1 := rfl
  simp [kok, h1]
theorem st_enc {x y : Int} {f : Bool} {k v : ByteArray} (h : encok x y k v = true) : stV ⟨(encL x y f k v).toArray⟩ = 3 := by
  unfold stV
  rw [if_neg (by rw [mk_size]; unfold encL; simp), dec_enc x y f k v h]
  rfl
theorem st_dead {k : ByteArray} (h : kok k = true) : stV ⟨(deadL k).toArray⟩ = 2 := by
  unfold stV
  rw [if_neg (by rw [mk_size]; unfold deadL; simp), dec_dead, if_neg (by simp), bur_dead k h]
  rfl
theorem st_five : stV ⟨([5] : List UInt8).toArray⟩ = 0 := by
  have hd : decV ⟨([5] : List UInt8).toArray⟩ = none := by unfold decV; rw [if_neg]; rintro ⟨h, _⟩; rw [mk_size] at h; simp at h
  have hb : burV ⟨([5] : List UInt8).toArray⟩ = none := by
    cases hb : burV ⟨([5] : List UInt8).toArray⟩ with
    | none => rfl
    | some k =>
      have := (dead_bur _ k hb).1
      rw [List.toList_toArray] at this
      unfold deadL at this
      injection this with h _
      exact absurd h (by decide)
  unfold stV
  rw [if_neg (by rw [mk_size]; simp), hd, hb]
  rfl
theorem st_none : stV ⟨#[]⟩ = 1 := by unfold stV; rw [if_pos (show ByteArray.size ⟨#[]⟩ = 0 from rfl)]

set_option maxRecDepth 100000 in
set_option maxHeartbeats 2000000 in
theorem awake_c (w : World) : Calls Try.prog 14 #[] w fun e w' => e = .returned (.bool true) ∧ Below w.heap.size w w' := by
  have CE : ∀ w, Calls Try.prog 9 #[.agg #[.int .i64 3, .int .i64 0, .bool false, .string ⟨#[107]⟩, .string ⟨#[118, 118]⟩]] w fun e w' => e = .returned (.tuple #[.string ⟨#[1, 0, 3, 0, 0, 1, 107, 2, 118, 118]⟩, .int .i64 0]) ∧ Below w.heap.size w w' := fun w => by
    have h := enc_yes 3 0 false ⟨#[107]⟩ ⟨#[118, 118]⟩ w ex_ok
    rw [ex_enc] at h
    exact h
  have CDd : ∀ w, Calls Try.prog 11 #[.string ⟨#[107]⟩] w fun e w' => e = .returned (.tuple #[.string ⟨#[4, 1, 107]⟩, .int .i64 0]) ∧ Below w.heap.size w w' := fun w => by
    have h := dead_yes ⟨#[107]⟩ w ex_kok
    rw [ex_dead] at h
    exact h
  have CS1 : ∀ w, Calls Try.prog 16 #[.string ⟨#[1, 0, 3, 0, 0, 1, 107, 2, 118, 118]⟩] w fun e w' => e = .returned (.int .u8 3) ∧ Below w.heap.size w w' := fun w => by
    have h := state_c ⟨(encL 3 0 false ⟨#[107]⟩ ⟨#[118, 118]⟩).toArray⟩ w (by rw [mk_size, ex_enc]; decide)
    rw [st_enc ex_ok, ex_enc] at h
    exact h
  have CS2 : ∀ w, Calls Try.prog 16 #[.string ⟨#[4, 1, 107]⟩] w fun e w' => e = .returned (.int .u8 2) ∧ Below w.heap.size w w' := fun w => by
    have h := state_c ⟨(deadL ⟨#[107]⟩).toArray⟩ w (by rw [mk_size, ex_dead]; decide)
    rw [st_dead ex_kok, ex_dead] at h
    exact h
  have CS3 : ∀ w, Calls Try.prog 16 #[.string ⟨#[5]⟩] w fun e w' => e = .returned (.int .u8 0) ∧ Below w.heap.size w w' := fun w => by
    have h := state_c ⟨([5] : List UInt8).toArray⟩ w (by rw [mk_size]; decide)
    rw [st_five] at h
    exact h
  have CS4 : ∀ w, Calls Try.prog 16 #[.string ⟨#[]⟩] w fun e w' => e = .returned (.int .u8 1) ∧ Below w.heap.size w w' := fun w => by
    have h := state_c ⟨#[]⟩ w (by decide)
    rw [st_none] at h
    exact h
  replace CE := Lib.hid CE
  replace CDd := Lib.hid CDd
  replace CS1 := Lib.hid CS1
  replace CS2 := Lib.hid CS2
  replace CS3 := Lib.hid CS3
  replace CS4 := Lib.hid CS4
  go_enter Try.func14, Try.ntmps14
  go_wp2_with fail
  refine (CE.out _).mono ?_
  rintro e w1 ⟨rfl, hb⟩
  have H1 := Lib.hid hb
  clear hb
  go_wp2_with fail
  refine (CDd.out _).mono ?_
  rintro e w2 ⟨rfl, hb⟩
  have H2 := Lib.hid (H1.out.trans (hb.mono H1.out.size))
  clear hb
  go_wp2_with fail
  refine (CS1.out _).mono ?_
  rintro e w3 ⟨rfl, hb⟩
  have H3 := Lib.hid (H2.out.trans (hb.mono H2.out.size))
  clear hb
  go_wp2_with fail
  refine (CS2.out _).mono ?_
  rintro e w4 ⟨rfl, hb⟩
  have H4 := Lib.hid (H3.out.trans (hb.mono H3.out.size))
  clear hb
  go_wp2_with fail
  refine (CS3.out _).mono ?_
  rintro e w5 ⟨rfl, hb⟩
  have H5 := Lib.hid (H4.out.trans (hb.mono H4.out.size))
  clear hb
  go_wp2_with fail
  refine (CS4.out _).mono ?_
  rintro e w6 ⟨rfl, hb⟩
  have H6 := Lib.hid (H5.out.trans (hb.mono H5.out.size))
  clear hb
  go_wp2_with fail
  go_ret
  exact ⟨rfl, H6.out⟩

/-- What both say of a version, and of a dead slot. -/
theorem enc_both (x y : Int) (f : Bool) (k v : ByteArray) : ∃ (S : ByteArray) (E : Int),
    Hid (∀ w, Calls Try.prog 9 #[.agg #[.int .i64 x, .int .i64 y, .bool f, .string k, .string v]] w fun e w' => e = .returned (.tuple #[.string S, .int .i64 E]) ∧ Below w.heap.size w w') ∧
    Hid (∀ w, Calls Try.prog 10 #[.agg #[.int .i64 x, .int .i64 y, .bool f, .string k, .string v]] w fun e w' => e = .returned (.tuple #[.string S, .int .i64 E]) ∧ Below w.heap.size w w') ∧
    ((E = 0 ∧ S = ⟨(encL x y f k v).toArray⟩ ∧ encok x y k v = true) ∨ (E = 110 ∧ S = ⟨#[]⟩ ∧ ¬ encok x y k v = true)) := by
  by_cases h : encok x y k v = true
  · exact ⟨_, _, fun w => enc_yes x y f k v w h, fun w => renc_yes x y f k v w h, .inl ⟨rfl, rfl, h⟩⟩
  · exact ⟨_, _, fun w => enc_no x y f k v w h, fun w => renc_no x y f k v w h, .inr ⟨rfl, rfl, h⟩⟩
theorem dead_both (k : ByteArray) : ∃ (S : ByteArray) (E : Int),
    Hid (∀ w, Calls Try.prog 11 #[.string k] w fun e w' => e = .returned (.tuple #[.string S, .int .i64 E]) ∧ Below w.heap.size w w') ∧
    Hid (∀ w, Calls Try.prog 12 #[.string k] w fun e w' => e = .returned (.tuple #[.string S, .int .i64 E]) ∧ Below w.heap.size w w') ∧
    ((E = 0 ∧ S = ⟨(deadL k).toArray⟩ ∧ kok k = true) ∨ (E = 110 ∧ S = ⟨#[]⟩ ∧ ¬ kok k = true)) := by
  by_cases h : kok k = true
  · exact ⟨_, _, fun w => dead_yes k w h, fun w => rdead_yes k w h, .inl ⟨rfl, rfl, h⟩⟩
  · exact ⟨_, _, fun w => dead_no k w (by simpa using h), fun w => rdead_no k w (by simpa using h), .inr ⟨rfl, rfl, h⟩⟩

/-- The argument of a law, boxed. -/
structure Bx (W wx : World) (bt : Nat) (x y : Int) (f : Bool) (k v : ByteArray) : Prop where
  tb : TB wx bt x y f k v
  bel : Below W.heap.size W wx
theorem Bx.below {W wx w' : World} {bt : Nat} {x y : Int} {f : Bool} {k v : ByteArray} (h : Bx W wx bt x y f k v) (hb : Below wx.heap.size wx w') : Bx W w' bt x y f k v := ⟨h.tb.below hb, h.bel.trans (hb.mono h.bel.size)⟩

set_option maxRecDepth 100000 in
set_option maxHeartbeats 2000000 in
theorem tupleWrites_w (x y : Int) (f : Bool) (k v : ByteArray) (w : World) :
    Calls Try.prog 3 #[.agg #[.int .i64 x, .int .i64 y, .bool f, .string k, .string v]] w fun e w' => e = .returned (.bool true) ∧ Below w.heap.size w w' := by
  obtain ⟨S, E, CE, CR, _⟩ := enc_both x y f k v
  obtain ⟨D, G, CD, CQ, _⟩ := dead_both k
  obtain ⟨wb, hwb⟩ : ∃ wb, wb = w.alloc (.cells #[.int .i64 x, .int .i64 y, .bool f, .string k, .string v] 23) := ⟨_, rfl⟩
  obtain ⟨bt, hbt⟩ : ∃ bt, bt = w.heap.size := ⟨_, rfl⟩
  have H0 : Hid (Bx w wb bt x y f k v) := by rw [hwb, hbt]; exact ⟨TB.new w x y f k v, (Below.refl _ w).alloc (Nat.le_refl _) _⟩
  have HWB := Lib.hid hwb
  have HBT := Lib.hid hbt
  clear hwb hbt
  go_enter Try.func3, Try.ntmps3
  go_wp2_with fail
  rw [← HWB.out, ← HBT.out]
  clear HWB HBT
  refine (CE.out _).mono ?_
  rintro e w1 ⟨rfl, hb⟩
  have H1 := Lib.hid (H0.out.below hb)
  obtain ⟨c0, c1, c2, c3, c4⟩ := H1.out.tb.cell
  clear hb
  go_wp2_with fail
  refine (CR.out _).mono ?_
  rintro e w2 ⟨rfl, hb⟩
  have H2 := Lib.hid (H1.out.below hb)
  clear hb c0 c1 c2 c3 c4
  have c3 := H2.out.tb.cell.2.2.2.1
  go_wp2_with fail
  refine (CD.out _).mono ?_
  rintro e w3 ⟨rfl, hb⟩
  have H3 := Lib.hid (H2.out.below hb)
  clear hb c3
  have c3 := H3.out.tb.cell.2.2.2.1
  go_wp2_with fail
  refine (CQ.out _).mono ?_
  rintro e w4 ⟨rfl, hb⟩
  have H4 := Lib.hid (H3.out.below hb)
  clear hb c3
  go_wp2_with fail
  refine (free_c _).mono ?_
  rintro e w5 ⟨rfl, rfl⟩
  go_wp2_with fail
  refine (awake_c _).mono ?_
  rintro e w6 ⟨rfl, hb⟩
  have H6 := Lib.hid (H4.out.below hb)
  clear hb
  go_wp2_with fail
  go_ret
  exact ⟨rfl, H6.out.bel⟩
end Go.Proofs.Ytioinjnignajnaa
