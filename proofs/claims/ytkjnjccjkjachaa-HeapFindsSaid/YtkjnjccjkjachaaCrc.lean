/- The sum of bytes, in plain numbers: a byte at a time or a bit at a time is the same, and a byte that differs is seen. -/
import Derived.Test.YtkjnjccjkjachaaBase
namespace Go.Proofs.Ytkjnjccjkjachaa
set_option maxRecDepth 100000

/-- One bit of the sum. -/
def cstep (c : Nat) : Nat := if c % 2 = 1 then (c / 2) ^^^ 3988292384 else c / 2
def citer : Nat → Nat → Nat
  | 0, c => c
  | k + 1, c => cstep (citer k c)
/-- A byte's turn. -/
def cturn (c : Nat) : Nat := citer 8 c
def cfold (c : Nat) (l : List UInt8) : Nat := l.foldl (fun c b => cturn (c ^^^ b.toNat)) c
/-- The sum of bytes. -/
def csum (l : List UInt8) : Nat := cfold 4294967295 l ^^^ 4294967295

theorem cstep_lt {c : Nat} (h : c < 4294967296) : cstep c < 4294967296 := by
  unfold cstep
  split
  · exact Nat.xor_lt_two_pow (n := 32) (by omega) (by decide)
  · omega
theorem citer_lt (k : Nat) {c : Nat} (h : c < 4294967296) : citer k c < 4294967296 := by
  induction k with
  | zero => exact h
  | succ k ih => exact cstep_lt ih
theorem cturn_lt {c : Nat} (h : c < 4294967296) : cturn c < 4294967296 := citer_lt 8 h
theorem cxor_lt {a b : Nat} (h : a < 4294967296) (h' : b < 4294967296) : a ^^^ b < 4294967296 := Nat.xor_lt_two_pow (n := 32) h h'

theorem xor_half (a b : Nat) : (a ^^^ b) / 2 = (a / 2) ^^^ (b / 2) := by
  apply Nat.eq_of_testBit_eq
  intro i
  simp [Nat.testBit_div_two, Nat.testBit_xor]
theorem xor_odd (a b : Nat) : (a ^^^ b) % 2 = (a % 2 + b % 2) % 2 := by
  have h := Nat.testBit_xor a b 0
  simp only [Nat.testBit_zero] at h
  rcases Nat.mod_two_eq_zero_or_one a with ha | ha <;> rcases Nat.mod_two_eq_zero_or_one b with hb | hb <;> rcases Nat.mod_two_eq_zero_or_one (a ^^^ b) with hc | hc <;> simp_all
theorem cstep_xor (a b : Nat) : cstep (a ^^^ b) = cstep a ^^^ cstep b := by
  unfold cstep
  rw [xor_odd, xor_half]
  rcases Nat.mod_two_eq_zero_or_one a with ha | ha <;> rcases Nat.mod_two_eq_zero_or_one b with hb | hb <;> simp [ha, hb]
  · rw [Nat.xor_assoc]
  · rw [Nat.xor_assoc, Nat.xor_assoc, Nat.xor_comm (b / 2)]
  · rw [Nat.xor_assoc, Nat.xor_comm 3988292384, Nat.xor_assoc, Nat.xor_self, Nat.xor_zero]
theorem citer_xor (k a b : Nat) : citer k (a ^^^ b) = citer k a ^^^ citer k b := by
  induction k with
  | zero => rfl
  | succ k ih => simp only [citer, ih, cstep_xor]
theorem citer_even (k j c : Nat) (h : k ≤ j) : citer k (c * 2 ^ j) = c * 2 ^ (j - k) := by
  induction k with
  | zero => simp [citer]
  | succ k ih =>
    have e : j - k = (j - (k + 1)) + 1 := by omega
    simp only [citer]
    rw [ih (by omega), e, Nat.pow_succ, ← Nat.mul_assoc]
    unfold cstep
    rw [if_neg (by omega)]
    omega
theorem cturn_high (c : Nat) : cturn (c * 256) = c := by
  have := citer_even 8 8 c (by omega)
  simpa [cturn] using this
/-- A byte at a time is eight bits at a time. -/
theorem cturn_split (c b : Nat) : cturn (c ^^^ b) = (c / 256) ^^^ cturn ((c % 256) ^^^ b) := by
  have h : c ^^^ b = (c / 256 * 256) ^^^ ((c % 256) ^^^ b) := by
    rw [← Nat.xor_assoc]
    congr 1
    apply Nat.eq_of_testBit_eq
    intro i
    have e1 : c / 256 * 256 = 2 ^ 8 * (c / 2 ^ 8) := by omega
    have e2 : c % 256 = c % 2 ^ 8 := by omega
    rw [Nat.testBit_xor, e1, e2, Nat.testBit_two_pow_mul, Nat.testBit_mod_two_pow]
    by_cases hi : i < 8
    · have : ¬ 8 ≤ i := by omega
      simp [hi, this]
    · simp only [hi, Nat.testBit_div_two_pow, decide_false, Bool.false_and, Bool.xor_false]
      have : 8 ≤ i := by omega
      simp [this]
  unfold cturn
  rw [h, citer_xor]
  congr 1
  exact cturn_high _

/-- A step forgets nothing. -/
theorem cstep_inj {a b : Nat} (ha : a < 4294967296) (hb : b < 4294967296) (h : cstep a = cstep b) : a = b := by
  have top : ∀ x, x < 2147483648 → (x ^^^ 3988292384).testBit 31 = true := fun x hx => by
    rw [Nat.testBit_xor, Nat.testBit_lt_two_pow (x := x) (i := 31) hx]; rfl
  have low : ∀ x, x < 2147483648 → x.testBit 31 = false := fun x hx => Nat.testBit_lt_two_pow hx
  unfold cstep at h
  rcases Nat.mod_two_eq_zero_or_one a with h1 | h1 <;> rcases Nat.mod_two_eq_zero_or_one b with h2 | h2
  · rw [if_neg (by omega), if_neg (by omega)] at h; omega
  · rw [if_neg (by omega), if_pos h2] at h
    have t1 := low (a / 2) (by omega)
    rw [h, top _ (by omega)] at t1; cases t1
  · rw [if_pos h1, if_neg (by omega)] at h
    have t1 := low (b / 2) (by omega)
    rw [← h, top _ (by omega)] at t1; cases t1
  · rw [if_pos h1, if_pos h2] at h
    have : a / 2 = b / 2 := by
      have := congrArg (· ^^^ 3988292384) h
      simpa [Nat.xor_assoc] using this
    omega
theorem citer_inj (k : Nat) {a b : Nat} (ha : a < 4294967296) (hb : b < 4294967296) (h : citer k a = citer k b) : a = b := by
  induction k with
  | zero => exact h
  | succ k ih => exact ih (cstep_inj (citer_lt k ha) (citer_lt k hb) h)
theorem xor_left_inj {a b c : Nat} (h : a ^^^ c = b ^^^ c) : a = b := by
  have := congrArg (· ^^^ c) h
  simpa [Nat.xor_assoc] using this
theorem xor_right_inj {a b c : Nat} (h : c ^^^ a = c ^^^ b) : a = b := by
  rw [Nat.xor_comm c a, Nat.xor_comm c b] at h; exact xor_left_inj h
theorem cfold_lt {c : Nat} (l : List UInt8) (h : c < 4294967296) : cfold c l < 4294967296 := by
  induction l generalizing c with
  | nil => exact h
  | cons b l ih => exact ih (cturn_lt (cxor_lt h (by have := b.toNat_lt; omega)))
theorem cfold_inj {a b : Nat} (l : List UInt8) (ha : a < 4294967296) (hb : b < 4294967296) (h : cfold a l = cfold b l) : a = b := by
  induction l generalizing a b with
  | nil => exact h
  | cons x l ih =>
    have hx : x.toNat < 4294967296 := by have := x.toNat_lt; omega
    exact xor_left_inj (citer_inj 8 (cxor_lt ha hx) (cxor_lt hb hx) (ih (cturn_lt (cxor_lt ha hx)) (cturn_lt (cxor_lt hb hx)) h))
theorem cfold_append (c : Nat) (l r : List UInt8) : cfold c (l ++ r) = cfold (cfold c l) r := List.foldl_append ..
theorem csum_differs (l r : List UInt8) (x y : UInt8) (h : x ≠ y) : csum (l ++ x :: r) ≠ csum (l ++ y :: r) := by
  intro e
  have e1 := xor_left_inj e
  rw [cfold_append, cfold_append] at e1
  have hc := cfold_lt (c := 4294967295) l (by decide)
  have hx : x.toNat < 4294967296 := by have := x.toNat_lt; omega
  have hy : y.toNat < 4294967296 := by have := y.toNat_lt; omega
  have e2 : cturn (cfold 4294967295 l ^^^ x.toNat) = cturn (cfold 4294967295 l ^^^ y.toNat) :=
    cfold_inj r (cturn_lt (cxor_lt hc hx)) (cturn_lt (cxor_lt hc hy)) e1
  exact h (UInt8.toNat_inj.1 (xor_right_inj (citer_inj 8 (cxor_lt hc hx) (cxor_lt hc hy) e2)))
theorem csum_lt (l : List UInt8) : csum l < 4294967296 := cxor_lt (cfold_lt l (by decide)) (by decide)
theorem cfold_snoc (c : Nat) (l : List UInt8) (b : UInt8) : cfold c (l ++ [b]) = cturn (cfold c l ^^^ b.toNat) := by rw [cfold_append]; rfl
end Go.Proofs.Ytkjnjccjkjachaa
