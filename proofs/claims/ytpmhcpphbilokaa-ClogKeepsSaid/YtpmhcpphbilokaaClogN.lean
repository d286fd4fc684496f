/- Statuses: what a cut forgets, plainly; the state of ClogCuts. -/
import Derived.Test.YtpmhcpphbilokaaOpRow
namespace Go.Proofs.Ytpmhcpphbilokaa
open Go.RowKit
set_option linter.unusedSimpArgs false
set_option maxRecDepth 100000

theorem xadd_eq {m F : Int} (hm : okm m = true) (hF : okx m F = true) (n : Int) : xadd m F n = (F - 1 + n) % m + 1 := by
  unfold xadd; rw [hm, hF]; rfl
theorem xadd_inj {m F : Int} (hm : okm m = true) (hF : okx m F = true) {j k : Nat} (hj : (j : Int) < m) (hk : (k : Int) < m) (h : xadd m F j = xadd m F k) : j = k := by
  have hb := okm_bd hm
  rw [xadd_eq hm hF, xadd_eq hm hF] at h
  have h1 : (F - 1 + j) % m = (F - 1 + k) % m := by omega
  have h2 := Int.emod_emod_of_dvd
  have h3 : ((F - 1 + j) - (F - 1 + k)) % m = 0 := Int.emod_eq_emod_iff_emod_sub_eq_zero.1 h1
  have h4 : (F - 1 + (j : Int)) - (F - 1 + k) = j - k := by omega
  rw [h4] at h3
  have h5 := Int.dvd_of_emod_eq_zero h3
  obtain ⟨c, hc⟩ := h5
  have hc0 : c = 0 := by
    rcases Int.lt_trichotomy c 0 with q | q | q
    · have : m * c ≤ m * (-1) := Int.mul_le_mul_of_nonneg_left (by omega) (by omega)
      omega
    · exact q
    · have : m * 1 ≤ m * c := Int.mul_le_mul_of_nonneg_left (by omega) (by omega)
      omega
  subst hc0
  omega
theorem xadd_next {m F : Int} (hm : okm m = true) (hF : okx m F = true) (k : Int) : xadd m F k % m + 1 = xadd m F (k + 1) := by
  have hb := okm_bd hm
  rw [xadd_eq hm hF, xadd_eq hm hF, Int.emod_add_emod, Int.add_assoc]
theorem xadd_zero {m F : Int} (hm : okm m = true) (hF : okx m F = true) : xadd m F 0 = F := by
  have hb := okm_bd hm; have hx := okx_bd hF
  rw [xadd_eq hm hF, Int.add_zero, Int.emod_eq_of_lt (by omega) (by omega)]; omega
theorem xadd_gap {m F L : Int} (hm : okm m = true) (hF : okx m F = true) (hL : okx m L = true) : xadd m F (xgap m F L) = L ∧ xgap m F L < m := by
  have hb := okm_bd hm; have hx := okx_bd hF; have hl := okx_bd hL
  have e : xgap m F L = (L - F) % m := by unfold xgap; rw [hm, hF, hL]; rfl
  rw [xadd_eq hm hF, e]
  refine ⟨?_, Int.emod_lt_of_pos _ (by omega)⟩
  rw [Int.add_emod_emod, show F - 1 + (L - F) = L - 1 by omega, Int.emod_eq_of_lt (by omega) (by omega)]; omega
theorem cutN_hit (m F : Int) (f : Nat → Nat) (n k : Nat) (h : k < n) : cutN m F f n (xadd m F k - 1).toNat = 0 := by
  induction n with
  | zero => omega
  | succ n ih =>
    show upd (cutN m F f n) (xadd m F n - 1).toNat 0 _ = 0
    unfold upd
    split
    · rfl
    · rename_i hne
      rcases Nat.lt_or_ge k n with q | q
      · exact ih q
      · have : k = n := by omega
        subst this
        exact absurd rfl hne
theorem cutN_miss {m F : Int} (hm : okm m = true) (hF : okx m F = true) (f : Nat → Nat) (n k : Nat) (hk : (k : Int) < m) (hn : (n : Int) ≤ m) (h : n ≤ k) : cutN m F f n (xadd m F k - 1).toNat = f (xadd m F k - 1).toNat := by
  induction n with
  | zero => rfl
  | succ n ih =>
    show upd (cutN m F f n) (xadd m F n - 1).toNat 0 _ = _
    unfold upd
    rw [if_neg]
    · exact ih (by omega) (by omega)
    · intro e
      have h1 := xadd_bd hm hF k
      have h2 := xadd_bd hm hF n
      have := xadd_inj hm hF (j := k) (k := n) hk (by omega) (by omega)
      omega

theorem OpsIn.at {w : World} {ao : Option Addr} {len : Nat} {C : Nat → Bool} {X T : Nat → Int} (h : OpsIn w ao len C X T) {i : Nat} (hi : i < len) :
    ∃ b off, ao = some ⟨b, off, none⟩ ∧ w.cell? ⟨b, off + i * 3, none⟩ = some (.bool (C i)) ∧ w.cell? ⟨b, off + i * 3 + 1, none⟩ = some (.int .i64 (X i)) ∧ w.cell? ⟨b, off + i * 3 + 2, none⟩ = some (.int .u8 (T i)) ∧ 0 ≤ T i := by
  obtain ⟨⟨b, off, e, h0, h1, h2⟩, _, hr⟩ := h i hi
  exact ⟨b, off, e, h0, h1, h2, hr⟩

/-- Changes and a limit, boxed. -/
def CB (w : World) (b : Nat) (ao : Option Addr) (len cap : Nat) (lim : Int) : Prop := w.heap[b]? = some (.cells #[.slice ao len cap, .int .i64 lim] 38 (0, 0))
theorem CB.cell {w : World} {b : Nat} {ao : Option Addr} {len cap : Nat} {lim : Int} (H : CB w b ao len cap lim) : w.cell? ⟨b, 0, none⟩ = some (.slice ao len cap) ∧ w.cell? ⟨b, 1, none⟩ = some (.int .i64 lim) := by
  unfold CB at H
  refine ⟨?_, ?_⟩ <;> (simp only [World.cell?, H]; rfl)
theorem CB.lt {w : World} {b : Nat} {ao : Option Addr} {len cap : Nat} {lim : Int} (H : CB w b ao len cap lim) : b < w.heap.size := World.block_lt_of_cell? w _ H.cell.1
theorem CB.grown {w w' : World} {b : Nat} {ao : Option Addr} {len cap : Nat} {lim : Int} (H : CB w b ao len cap lim) {row : Option Nat} (hg : w.grownBy w' row) (hr : some b ≠ row) : CB w' b ao len cap lim := (hg.block b H.lt hr).trans H
theorem CB.ne {w : World} {b b' : Nat} {ao : Option Addr} {len cap : Nat} {lim : Int} (H : CB w b ao len cap lim) {a0 a1 a2 a3 : Int} {h : ByteArray} {v : Value} (P : PK w b' a0 a1 a2 a3 h v) : b ≠ b' := by
  rintro rfl
  unfold CB PK at *
  rw [H] at P
  cases P
/-- The state of ClogCuts: the box, the page. -/
structure CS (W wx : World) (m lim : Int) (bx : Nat) (ao : Option Addr) (len cap : Nat) (bp : Nat) (F : Int) (f : Nat → Nat) (ap : Option Addr) (S : Nat → ByteArray) : Prop where
  box : CB wx bx ao len cap lim
  lv : LV m wx bp 0 F f ap S
  bel : Below W.heap.size W wx
  n0 : W.heap.size ≤ bp
theorem CS.below {W wx w' : World} {m lim : Int} {bx : Nat} {ao : Option Addr} {len cap bp : Nat} {F : Int} {f : Nat → Nat} {ap : Option Addr} {S : Nat → ByteArray} (H : CS W wx m lim bx ao len cap bp F f ap S) (hb : Below wx.heap.size wx w') : CS W w' m lim bx ao len cap bp F f ap S :=
  ⟨H.box.grown (grown_of hb) (by simp), H.lv.below hb, H.bel.trans (hb.mono H.bel.size), H.n0⟩
/-- A page is stored into the page's block. -/
theorem CS.re {W wx w' : World} {m lim : Int} {bx : Nat} {ao : Option Addr} {len cap bp : Nat} {F : Int} {f g : Nat → Nat} {ap aq : Option Addr} {S Sq : Nat → ByteArray} (H : CS W wx m lim bx ao len cap bp F f ap S) (Q : PR m wx 0 F g aq Sq) (hp : PK w' bp 0 1 0 0 ⟨#[]⟩ (.slice aq 2 2)) (hg : wx.grownBy w' (some bp)) : CS W w' m lim bx ao len cap bp F g aq Sq :=
  ⟨H.box.grown hg (by simpa using H.box.ne H.lv.pk), ⟨hp, Q.st H.lv.pk hg⟩, below_own H.bel H.n0 hg, H.n0⟩
end Go.Proofs.Ytpmhcpphbilokaa
