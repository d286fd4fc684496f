/- Checks: what is laid is read as it was. -/
import Derived.Test.YtbhiijjnobcmoaaCkG
namespace Go.Proofs.Ytbhiijjnobcmoaa
open Go.RowKit
set_option linter.unusedSimpArgs false
set_option maxRecDepth 100000

theorem bigL_succ (n k : Nat) : bigL n (k + 1) = bigL (n / 256) k ++ [UInt8.ofNat n] := by
  unfold bigL
  rw [List.range_succ, List.map_append]
  congr 1
  · apply List.map_congr_left
    intro j hj
    have hj := List.mem_range.1 hj
    unfold bigD
    rw [Nat.div_div_eq_div_mul, show k + 1 - 1 - j = (k - 1 - j) + 1 by omega, Nat.pow_succ', ]
  · simp [bigD]
theorem ofR_bigL (k : Nat) : ∀ n, ofR (bigL n k) = n % 256 ^ k := by
  induction k with
  | zero => intro n; simp [bigL, ofR, Nat.mod_one]
  | succ k ih =>
    intro n
    rw [bigL_succ, ofR_snoc, ih]
    have h : (UInt8.ofNat n).toNat = n % 256 := by simp
    rw [h, Nat.pow_succ']
    rw [Nat.mod_mul]
    rw [Nat.mul_comm, Nat.add_comm]
theorem ofV_bg (x : Int) (k : Nat) (h0 : 0 ≤ x) (hx : x < 281474976710656) (hk : x < (256 ^ k : Nat)) : ((ofV (bg x k) : Nat) : Int) = x := by
  unfold ofV bg
  rw [ofR_bigL, Nat.mod_eq_of_lt (a := x.toNat) (by omega), Nat.mod_eq_of_lt (by omega)]
  omega
theorem encL_len (a b c d n s k : Int) : (encL a b c d n s k).length = 64 := by simp [encL, bg_len]
theorem bn_n (a b c d n s k : Int) : bn (encL a b c d n s k) 0 4 = (ofV (bg n 4) : Nat) := rfl
theorem bn_a (a b c d n s k : Int) : bn (encL a b c d n s k) 4 4 = (ofV (bg a 4) : Nat) := rfl
theorem bn_b (a b c d n s k : Int) : bn (encL a b c d n s k) 8 4 = (ofV (bg b 4) : Nat) := rfl
theorem bn_c (a b c d n s k : Int) : bn (encL a b c d n s k) 12 4 = (ofV (bg c 4) : Nat) := rfl
theorem bn_d (a b c d n s k : Int) : bn (encL a b c d n s k) 16 4 = (ofV (bg d 4) : Nat) := rfl
theorem bn_s (a b c d n s k : Int) : bn (encL a b c d n s k) 20 6 = (ofV (bg s 6) : Nat) := rfl
theorem bn_k (a b c d n s k : Int) : bn (encL a b c d n s k) 26 6 = (ofV (bg k 6) : Nat) := rfl
theorem and_one (m : Int) (h1 : 0 ≤ m) (h2 : m ≤ 4294967295) : bits BinOp.and IntKind.i64 m 1 = m % 2 :=
  bits_mask .i64 63 (by decide) (fun n h0 h1 => by rw [IntKind.wrap_i64]; omega) 1 (by decide) m (by omega) (by omega)

theorem dec_enc {a b c d n s k : Int} (hok : okCtl a b c d n s k = true) (place : Int) :
    decV (encL a b c d n s k) place = if n % 2 = place then .tuple #[.agg #[.int .i64 a, .int .i64 b, .int .i64 c, .int .i64 d, .int .i64 n, .int .i64 s, .int .i64 k], .int .i64 0]
      else .tuple #[.agg #[.int .i64 0, .int .i64 0, .int .i64 0, .int .i64 0, .int .i64 0, .int .i64 0, .int .i64 0], .int .i64 223] := by
  obtain ⟨hc, hn, hs, hk⟩ := okCtl_bd hok
  obtain ⟨h1, h2, h3, h4⟩ := okCfg_bd hc
  unfold decV decR decA
  rw [bn_n, bn_a, bn_b, bn_c, bn_d, bn_s, bn_k, ofV_bg n 4 (by omega) (by omega) (by omega), ofV_bg a 4 (by omega) (by omega) (by omega), ofV_bg b 4 (by omega) (by omega) (by omega), ofV_bg c 4 (by omega) (by omega) (by omega), ofV_bg d 4 (by omega) (by omega) (by omega), ofV_bg s 6 (by omega) (by omega) (by omega), ofV_bg k 6 (by omega) (by omega) (by omega)]
  have hs : okSec (encL a b c d n s k) place a b c d n s k = (n % 2 == place) := by
    unfold okSec
    rw [hok, and_one n (by omega) (by omega), decide_eq_true rfl]
    simp
  rw [hs]
  by_cases h : n % 2 = place
  · rw [if_pos ⟨encL_len _ _ _ _ _ _ _, by simpa using h⟩, if_pos h]; rfl
  · rw [if_neg (fun hh => h (by simpa using hh.2)), if_neg h]; rfl

set_option maxHeartbeats 4000000 in
theorem checkBack_w (a b c d n s k : Int) (w : World) :
    Calls Try.prog 4 #[.agg #[.int .i64 a, .int .i64 b, .int .i64 c, .int .i64 d, .int .i64 n, .int .i64 s, .int .i64 k]] w fun e w' => e = .returned (.bool true) ∧ Below w.heap.size w w' := by
  obtain ⟨wb, hwb⟩ : ∃ wb, wb = w.alloc (.cells #[.int .i64 a, .int .i64 b, .int .i64 c, .int .i64 d, .int .i64 n, .int .i64 s, .int .i64 k] 25) := ⟨_, rfl⟩
  obtain ⟨bt, hbt⟩ : ∃ bt, bt = w.heap.size := ⟨_, rfl⟩
  have B0 : Hid (Below w.heap.size w wb) := by unfold Hid; rw [hwb]; exact (Below.refl _ w).alloc (Nat.le_refl _) _
  have C0 : Hid (CT wb bt a b c d n s k) := by unfold Hid CT; rw [hwb, hbt]; exact heap_alloc_new w _
  go_enter Try.func4, Try.ntmps4
  have cc := C0.out.cell
  rw [hwb, hbt] at cc
  obtain ⟨c0, c1, c2, c3, c4, c5, c6⟩ := cc
  go_wp2_with fail
  clear c0 c1 c2 c3 c4 c5 c6
  rw [← hwb, ← hbt]
  clear hwb hbt
  refine (encode_c a b c d n s k wb).mono ?_
  rintro e w1 ⟨rfl, hb1⟩
  have B1 := Lib.hid (B0.out.trans (hb1.mono B0.out.size))
  have C1 := Lib.hid (C0.out.below hb1)
  clear hb1 B0 C0
  cases hok : okCtl a b c d n s k
  · rw [encV_no hok]
    clear hok
    go_wp2_with fail
    refine (awake_c _).mono ?_
    rintro e w4 ⟨rfl, hb4⟩
    have B4 := Lib.hid (B1.out.trans (hb4.mono B1.out.size))
    clear hb4
    go_wp2_with fail
    go_ret
    exact ⟨rfl, B4.out⟩
  · rw [encV_yes hok]
    have HOK := Lib.hid hok
    obtain ⟨_, hn, _, _⟩ := okCtl_bd hok
    obtain ⟨t, ht⟩ : ∃ t : ByteArray, t = ⟨(encL a b c d n s k).toArray⟩ := ⟨_, rfl⟩
    have HTT : Hid (t.data.toList = encL a b c d n s k) := by unfold Hid; rw [ht]
    rw [← ht]
    clear ht hok
    obtain ⟨c0, c1, c2, c3, c4, c5, c6⟩ := C1.out.cell
    go_wp2_with fail
    clear c0 c1 c2 c3 c4 c5 c6
    refine (decode_c t (n % 2) w1).mono ?_
    rintro e w2 ⟨rfl, hb2⟩
    rw [HTT.out, dec_enc HOK.out, if_pos rfl]
    have B2 := Lib.hid (B1.out.trans (hb2.mono B1.out.size))
    have C2 := Lib.hid (C1.out.below hb2)
    clear hb2 B1 C1
    have D3 : Hid (CT (w2.alloc (.cells #[.int .i64 a, .int .i64 b, .int .i64 c, .int .i64 d, .int .i64 n, .int .i64 s, .int .i64 k] 25)) w2.heap.size a b c d n s k) := heap_alloc_new w2 _
    have ha := (Below.refl w2.heap.size w2).alloc (Nat.le_refl _) (.cells #[.int .i64 a, .int .i64 b, .int .i64 c, .int .i64 d, .int .i64 n, .int .i64 s, .int .i64 k] 25)
    have B3 := Lib.hid (B2.out.trans (ha.mono B2.out.size))
    have C3 := Lib.hid (C2.out.below ha)
    obtain ⟨c0, c1, c2, c3, c4, c5, c6⟩ := C3.out.cell
    clear ha B2 C2
    go_wp2_with fail
    clear c0 c1 c2 c3 c4 c5 c6
    generalize w2.alloc (.cells #[.int .i64 a, .int .i64 b, .int .i64 c, .int .i64 d, .int .i64 n, .int .i64 s, .int .i64 k] 25) = w3 at *
    generalize w2.heap.size = bd at *
    refine (decode_c t (1 - n % 2) w3).mono ?_
    rintro e w4 ⟨rfl, hb4⟩
    rw [HTT.out, dec_enc HOK.out, if_neg (by omega)]
    have hb5 := (Below.refl w4.heap.size w4).alloc (Nat.le_refl _) (.cells #[.int .i64 0, .int .i64 0, .int .i64 0, .int .i64 0, .int .i64 0, .int .i64 0, .int .i64 0] 25)
    have hb6 := hb4.trans (hb5.mono hb4.size)
    have B5 := Lib.hid (B3.out.trans (hb6.mono B3.out.size))
    have C5 := Lib.hid (C3.out.below hb6)
    have D5 := Lib.hid (D3.out.below hb6)
    clear hb4 hb5 hb6 B3 C3 D3
    obtain ⟨c0, c1, c2, c3, c4, c5, c6⟩ := C5.out.cell
    obtain ⟨d0, d1, d2, d3, d4, d5, d6⟩ := D5.out.cell
    go_wp2_with fail
    clear c0 c1 c2 c3 c4 c5 c6 d0 d1 d2 d3 d4 d5 d6
    generalize w4.alloc (.cells #[.int .i64 0, .int .i64 0, .int .i64 0, .int .i64 0, .int .i64 0, .int .i64 0, .int .i64 0] 25) = w5 at *
    refine (awake_c _).mono ?_
    rintro e w6 ⟨rfl, hb6⟩
    have B6 := Lib.hid (B5.out.trans (hb6.mono B5.out.size))
    clear hb6
    go_wp2_with fail
    go_ret
    exact ⟨rfl, B6.out⟩
end Go.Proofs.Ytbhiijjnobcmoaa
