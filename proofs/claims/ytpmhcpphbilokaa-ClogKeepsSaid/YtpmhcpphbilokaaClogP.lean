/- Statuses as a function, and as bytes: plain laws, no program is in sight. -/
import Derived.Test.YtpmhcpphbilokaaBy
namespace Go.Proofs.Ytpmhcpphbilokaa

/-- The byte of four statuses. -/
def byteF (f : Nat → Nat) (j : Nat) : Nat := f (4 * j) + 4 * f (4 * j + 1) + 16 * f (4 * j + 2) + 64 * f (4 * j + 3)
/-- The bytes of statuses. -/
def bsOf (f : Nat → Nat) (n : Nat) : List UInt8 := (List.range n).map fun j => UInt8.ofNat (byteF f j)
def upd (f : Nat → Nat) (i s : Nat) : Nat → Nat := fun j => if j = i then s else f j
/-- Statuses of m ids. -/
structure okf (f : Nat → Nat) (m : Nat) : Prop where
  le : ∀ i, f i ≤ 3
  out : ∀ i, m ≤ i → f i = 0
/-- The statuses of bytes. -/
def stOf (l : List UInt8) (i : Nat) : Nat := (l.getD (i / 4) 0).toNat / 4 ^ (i % 4) % 4
/-- A byte with another status in place k of its four. -/
def putN (c k s : Nat) : Nat := c - c / 4 ^ k % 4 * 4 ^ k + s * 4 ^ k

theorem bsOf_len (f : Nat → Nat) (n : Nat) : (bsOf f n).length = n := by simp [bsOf]
theorem byteF_lt {f : Nat → Nat} (h : ∀ i, f i ≤ 3) (j : Nat) : byteF f j < 256 := by
  have h0 := h (4 * j); have h1 := h (4 * j + 1); have h2 := h (4 * j + 2); have h3 := h (4 * j + 3)
  unfold byteF
  omega
theorem bsOf_get (f : Nat → Nat) (n j : Nat) (hj : j < (bsOf f n).length) : (bsOf f n)[j] = UInt8.ofNat (byteF f j) := by
  simp [bsOf]
theorem bsOf_nat {f : Nat → Nat} (h : ∀ i, f i ≤ 3) (n j : Nat) (hj : j < (bsOf f n).length) : (bsOf f n)[j].toNat = byteF f j := by
  rw [bsOf_get]
  exact Nat.mod_eq_of_lt (byteF_lt h j)
theorem stOf_le (l : List UInt8) (i : Nat) : stOf l i ≤ 3 := by unfold stOf; omega
theorem byte_st (l : List UInt8) (j : Nat) : byteF (stOf l) j = (l.getD j 0).toNat := by
  have hlt := (l.getD j 0).toNat_lt
  unfold byteF stOf
  have a0 : 4 * j / 4 = j := by omega
  have a1 : (4 * j + 1) / 4 = j := by omega
  have a2 : (4 * j + 2) / 4 = j := by omega
  have a3 : (4 * j + 3) / 4 = j := by omega
  have b0 : 4 * j % 4 = 0 := by omega
  have b1 : (4 * j + 1) % 4 = 1 := by omega
  have b2 : (4 * j + 2) % 4 = 2 := by omega
  have b3 : (4 * j + 3) % 4 = 3 := by omega
  rw [a0, a1, a2, a3, b0, b1, b2, b3]
  generalize (l.getD j 0).toNat = c at *
  simp only [Nat.reducePow, Nat.div_one]
  omega
theorem bsOf_st (l : List UInt8) : bsOf (stOf l) l.length = l := by
  apply List.ext_getElem (by rw [bsOf_len])
  intro j h1 h2
  rw [bsOf_get, byte_st, List.getD_eq_getElem?_getD, List.getElem?_eq_getElem h2]
  simp
theorem st_bsOf {f : Nat → Nat} (h : ∀ i, f i ≤ 3) (n i : Nat) (hi : i < 4 * n) : stOf (bsOf f n) i = f i := by
  have hj : i / 4 < (bsOf f n).length := by rw [bsOf_len]; omega
  unfold stOf
  rw [List.getD_eq_getElem?_getD, List.getElem?_eq_getElem hj, Option.getD_some, bsOf_nat h]
  have h0 := h (4 * (i / 4)); have h1 := h (4 * (i / 4) + 1); have h2 := h (4 * (i / 4) + 2); have h3 := h (4 * (i / 4) + 3)
  have e : i = 4 * (i / 4) + i % 4 := by omega
  unfold byteF
  have hk : i % 4 < 4 := by omega
  generalize i / 4 = q at *
  generalize i % 4 = k at *
  subst e
  match k, hk with
  | 0, _ => simp only [Nat.reducePow, Nat.div_one, Nat.add_zero]; omega
  | 1, _ => simp only [Nat.reducePow]; omega
  | 2, _ => simp only [Nat.reducePow]; omega
  | 3, _ => simp only [Nat.reducePow]; omega
theorem bsOf_ext {f g : Nat → Nat} (n : Nat) (h : ∀ i, i < 4 * n → f i = g i) : bsOf f n = bsOf g n := by
  apply List.ext_getElem (by rw [bsOf_len, bsOf_len])
  intro j h1 h2
  have hj : j < n := by rwa [bsOf_len] at h1
  rw [bsOf_get, bsOf_get]
  unfold byteF
  rw [h _ (by omega), h _ (by omega), h _ (by omega), h _ (by omega)]
theorem upd_le {f : Nat → Nat} (h : ∀ i, f i ≤ 3) {s : Nat} (hs : s ≤ 3) (i j : Nat) : upd f i s j ≤ 3 := by
  unfold upd; split
  · exact hs
  · exact h j
theorem upd_ok {f : Nat → Nat} {m : Nat} (h : okf f m) {i s : Nat} (hi : i < m) (hs : s ≤ 3) : okf (upd f i s) m :=
  ⟨upd_le h.le hs i, fun j hj => by unfold upd; rw [if_neg (by omega)]; exact h.out j hj⟩
theorem putN_byte {f : Nat → Nat} (h : ∀ i, f i ≤ 3) {s : Nat} (_ : s ≤ 3) (i : Nat) : byteF (upd f i s) (i / 4) = putN (byteF f (i / 4)) (i % 4) s := by
  have h0 := h (4 * (i / 4)); have h1 := h (4 * (i / 4) + 1); have h2 := h (4 * (i / 4) + 2); have h3 := h (4 * (i / 4) + 3)
  have e : i = 4 * (i / 4) + i % 4 := by omega
  have hk : i % 4 < 4 := by omega
  generalize i / 4 = q at *
  generalize i % 4 = k at *
  subst e
  unfold byteF putN upd
  match k, hk with
  | 0, _ =>
    rw [if_pos (by omega), if_neg (by omega), if_neg (by omega), if_neg (by omega)]
    simp only [Nat.reducePow, Nat.div_one, Nat.mul_one]; omega
  | 1, _ =>
    rw [if_neg (by omega), if_pos (by omega), if_neg (by omega), if_neg (by omega)]
    simp only [Nat.reducePow]; omega
  | 2, _ =>
    rw [if_neg (by omega), if_neg (by omega), if_pos (by omega), if_neg (by omega)]
    simp only [Nat.reducePow]; omega
  | 3, _ =>
    rw [if_neg (by omega), if_neg (by omega), if_neg (by omega), if_pos (by omega)]
    simp only [Nat.reducePow]; omega
theorem bsOf_upd {f : Nat → Nat} (h : ∀ i, f i ≤ 3) {s : Nat} (hs : s ≤ 3) (i n : Nat) :
    bsOf (upd f i s) n = (bsOf f n).set (i / 4) (UInt8.ofNat (putN (byteF f (i / 4)) (i % 4) s)) := by
  apply List.ext_getElem (by rw [List.length_set, bsOf_len, bsOf_len])
  intro j h1 h2
  rw [bsOf_get, List.getElem_set]
  split
  · rename_i e; subst e; rw [putN_byte h hs]
  · rename_i e
    rw [bsOf_get]
    unfold byteF upd
    rw [if_neg (by omega), if_neg (by omega), if_neg (by omega), if_neg (by omega)]
theorem upd_upd (f : Nat → Nat) {i j : Nat} (h : i ≠ j) (s t : Nat) : upd (upd f i s) j t = upd (upd f j t) i s := by
  funext k
  unfold upd
  split
  · rename_i e; rw [if_neg (by omega)]
  · rfl
theorem upd_same (f : Nat → Nat) (i s : Nat) : upd f i s i = s := by simp [upd]
theorem upd_other (f : Nat → Nat) {i j : Nat} (h : j ≠ i) (s : Nat) : upd f i s j = f j := by simp [upd, h]
end Go.Proofs.Ytpmhcpphbilokaa
