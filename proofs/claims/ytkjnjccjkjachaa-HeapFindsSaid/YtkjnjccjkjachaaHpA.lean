/- Pages of any items: their size, whether they fit, and the room of one more item. -/
import Derived.Test.YtkjnjccjkjachaaTupI
namespace Go.Proofs.Ytkjnjccjkjachaa
open Go.RowKit
set_option linter.unusedSimpArgs false
set_option maxRecDepth 100000

/-- What the items of a page need. -/
def itot (S : Nat → ByteArray) : Nat → Nat
  | 0 => 0
  | n + 1 => itot S n + (2 + (S n).size)
def psz (h : ByteArray) (S : Nat → ByteArray) (len : Nat) : Nat := 20 + h.size + itot S len
def okfit (h : ByteArray) (S : Nat → ByteArray) (len : Nat) : Bool := decide (len ≤ 255) && decide (psz h S len ≤ 512)
/-- No text of a page is longer than the reach. -/
structure Small (h : ByteArray) (S : Nat → ByteArray) (len : Nat) : Prop where
  hh : h.size ≤ 140737488355328
  it : ∀ i, i < len → (S i).size ≤ 140737488355328
theorem itot_le {S : Nat → ByteArray} : ∀ {n : Nat}, (∀ i, i < n → (S i).size ≤ 140737488355328) → itot S n ≤ n * 140737488355330
  | 0, _ => Nat.le_refl _
  | n + 1, h => by
    have h1 := itot_le (n := n) fun i hi => h i (by omega)
    have h2 := h n (by omega)
    unfold itot
    omega
theorem psz_le {h : ByteArray} {S : Nat → ByteArray} {len : Nat} (H : Small h S len) (hl : len ≤ 255) : psz h S len ≤ 36169534507319318 := by
  have h1 := itot_le H.it
  have h2 := H.hh
  have h3 : len * 140737488355330 ≤ 255 * 140737488355330 := Nat.mul_le_mul_right _ hl
  unfold psz
  omega
/-- The room of one more item. -/
def proom (h : ByteArray) (S : Nat → ByteArray) (len : Nat) : Int := if 510 < psz h S len ∨ 255 ≤ len then -1 else 510 - (psz h S len : Int)

set_option maxHeartbeats 2000000 in
theorem size_c (a0 a1 a2 a3 : Int) (h : ByteArray) (ao : Option Addr) (len cap : Nat) (S : Nat → ByteArray) (w : World) (hlen : len ≤ 255) (hM : Small h S len) (hs : StrsIn w ao len S) :
    Calls Try.prog 16 #[.agg #[.int .i64 a0, .int .i64 a1, .int .i64 a2, .int .i64 a3, .string h, .slice ao len cap]] w fun e w' => e = .returned (.int .i64 (psz h S len : Nat)) ∧ Below w.heap.size w w' := by
  have HM := Lib.hid hM
  have hh := hM.hh
  have H0 : Hid (PB w (w.alloc (.cells #[.int .i64 a0, .int .i64 a1, .int .i64 a2, .int .i64 a3, .string h, .slice ao len cap] 24)) w.heap.size a0 a1 a2 a3 h ao len cap S) := PB.new w a0 a1 a2 a3 h ao len cap S hs
  obtain ⟨c0, c1, c2, c3, c4, c5⟩ := H0.out.cell
  clear hM hs
  go_enter Try.func16, Try.ntmps16
  go_wp2_with fail
  generalize w.alloc (.cells #[.int .i64 a0, .int .i64 a1, .int .i64 a2, .int .i64 a3, .string h, .slice ao len cap] 24) = wb at *
  clear c0 c1 c2 c3 c4 c5
  go_loop [3, 13] (fun a i => ∃ k : Nat, k ≤ len ∧ i = .int .i64 k ∧ ∃ T : Nat, a = .int .i64 T ∧ Hid (T = 20 + h.size + itot S k)) (fun _ i => len - (intOf i).toNat)
  case atStart => exact ⟨0, Nat.zero_le _, rfl, 20 + h.size, congrArg (Value.int .i64) (by omega), rfl⟩
  case round =>
    obtain ⟨k, hk, rfl, T, rfl, HT⟩ := hrel
    by_cases hlt : k < len
    · obtain ⟨b, off, rfl, hc, _⟩ := H0.out.it k hlt
      have hsz := HM.out.it k hlt
      have hT : T ≤ 36169534507319318 := by
        have h1 := itot_le (n := k) fun i hi => HM.out.it i (by omega)
        have h2 : k * 140737488355330 ≤ 255 * 140737488355330 := Nat.mul_le_mul_right _ (by omega)
        have := HT.out
        omega
      have HT2 : Hid (T + (2 + (S k).size) = 20 + h.size + itot S (k + 1)) := by unfold Hid; rw [HT.out]; show _ = _ + (itot S k + (2 + (S k).size)); omega
      generalize S k = s at *
      go_wp2_with fail
      go_round
      case rel => exact ⟨k + 1, by omega, by go_num, T + (2 + s.size), congrArg (Value.int .i64) (by omega), HT2.out⟩
      case measure => simp [intOf]; omega
    · have e : k = len := by omega
      subst e
      have HR : Hid (T = psz h S k) := HT.out
      clear HT
      go_wp2_with fail
      go_ret
      rw [← HR.out]
      exact ⟨rfl, H0.out.bel⟩

set_option maxHeartbeats 2000000 in
theorem fits_p (a0 a1 a2 a3 : Int) (h : ByteArray) (ao : Option Addr) (len cap : Nat) (S : Nat → ByteArray) (w : World) (hlen : len ≤ 9223372036854775807) (hM : Small h S len) (hs : StrsIn w ao len S) :
    Calls Try.prog 22 #[.agg #[.int .i64 a0, .int .i64 a1, .int .i64 a2, .int .i64 a3, .string h, .slice ao len cap]] w fun e w' => e = .returned (.bool (okfit h S len)) ∧ Below w.heap.size w w' := by
  have H0 : Hid (PB w (w.alloc (.cells #[.int .i64 a0, .int .i64 a1, .int .i64 a2, .int .i64 a3, .string h, .slice ao len cap] 24)) w.heap.size a0 a1 a2 a3 h ao len cap S) := PB.new w a0 a1 a2 a3 h ao len cap S hs
  obtain ⟨c0, c1, c2, c3, c4, c5⟩ := H0.out.cell
  have HM := Lib.hid hM
  clear hM hs
  by_cases hl : len ≤ 255
  · have hp := psz_le HM.out hl
    have HO : Hid (okfit h S len = decide ((psz h S len : Int) ≤ 512)) := by unfold Hid okfit; rw [decide_eq_true hl, Bool.true_and]; exact decide_eq_decide.2 (by omega)
    have F := Lib.hid (fun w' hh => size_c a0 a1 a2 a3 h ao len cap S w' hl HM.out hh)
    clear HM
    rw [HO.out]
    clear HO
    generalize psz h S len = z at *
    go_enter Try.func22, Try.ntmps22
    go_wp2_with fail
    generalize w.alloc (.cells #[.int .i64 a0, .int .i64 a1, .int .i64 a2, .int .i64 a3, .string h, .slice ao len cap] 24) = wb at *
    refine (F.out wb H0.out.it).mono ?_
    rintro e w2 ⟨rfl, hb2⟩
    have HB2 := Lib.hid (H0.out.bel.trans (hb2.mono H0.out.bel.size))
    clear c0 c1 c2 c3 c4 c5 hb2 H0 F
    go_wp2_with fail
    go_ret
    exact ⟨rfl, HB2.out⟩
  · have HO : Hid (okfit h S len = false) := by unfold Hid okfit; rw [decide_eq_false hl, Bool.false_and]
    rw [HO.out]
    clear HO HM
    go_enter Try.func22, Try.ntmps22
    go_wp2_with fail
    go_ret
    exact ⟨rfl, H0.out.bel⟩

set_option maxHeartbeats 2000000 in
theorem proom_c (a0 a1 a2 a3 : Int) (h : ByteArray) (ao : Option Addr) (len cap : Nat) (S : Nat → ByteArray) (w : World) (hl : len ≤ 255) (hM : Small h S len) (hs : StrsIn w ao len S) :
    Calls Try.prog 17 #[.agg #[.int .i64 a0, .int .i64 a1, .int .i64 a2, .int .i64 a3, .string h, .slice ao len cap]] w fun e w' => e = .returned (.int .i64 (proom h S len)) ∧ Below w.heap.size w w' := by
  have H0 : Hid (PB w (w.alloc (.cells #[.int .i64 a0, .int .i64 a1, .int .i64 a2, .int .i64 a3, .string h, .slice ao len cap] 24)) w.heap.size a0 a1 a2 a3 h ao len cap S) := PB.new w a0 a1 a2 a3 h ao len cap S hs
  obtain ⟨c0, c1, c2, c3, c4, c5⟩ := H0.out.cell
  have HM := Lib.hid hM
  have hp := psz_le hM hl
  clear hM hs
  have HP : Hid (proom h S len = if 510 < psz h S len ∨ 255 ≤ len then -1 else 510 - (psz h S len : Int)) := rfl
  have F := Lib.hid (fun w' hh => size_c a0 a1 a2 a3 h ao len cap S w' hl HM.out hh)
  rw [HP.out]
  clear HP HM
  generalize psz h S len = z at *
  go_enter Try.func17, Try.ntmps17
  go_wp2_with fail
  generalize w.alloc (.cells #[.int .i64 a0, .int .i64 a1, .int .i64 a2, .int .i64 a3, .string h, .slice ao len cap] 24) = wb at *
  refine (F.out wb H0.out.it).mono ?_
  rintro e w2 ⟨rfl, hb2⟩
  have H2 := Lib.hid (H0.out.below hb2)
  clear c0 c1 c2 c3 c4 c5 hb2 H0 F
  obtain ⟨c0, c1, c2, c3, c4, c5⟩ := H2.out.cell
  by_cases h1 : 510 < z
  · go_wp2_with fail
    go_ret
    exact ⟨retI (by first | rfl | omega | (split <;> omega)), H2.out.bel⟩
  · by_cases h2 : 255 ≤ len
    · go_wp2_with fail
      go_ret
      exact ⟨retI (by first | rfl | omega | (split <;> omega)), H2.out.bel⟩
    · go_wp2_with fail
      go_ret
      exact ⟨retI (by first | rfl | omega | (split <;> omega)), H2.out.bel⟩
end Go.Proofs.Ytkjnjccjkjachaa
