/- The contracts of the inner functions of package xid: a modulus, ids, a place in the ring. -/
import Derived.Test.YtpmhcpphbilokaaBase
namespace Go.Proofs.Ytpmhcpphbilokaa
open Go.RowKit

/-- A modulus. -/
def okm (m : Int) : Bool := decide (16 ≤ m ∧ m ≤ 1024 ∧ m % 2 = 0)
/-- An id. -/
def okx (m x : Int) : Bool := decide (1 ≤ x ∧ x ≤ m)

theorem and_one (m : Int) (h1 : 16 ≤ m) (h2 : m ≤ 1024) : bits BinOp.and IntKind.i64 m 1 = m % 2 :=
  bits_mask .i64 63 (by decide) (fun n h0 h1 => by rw [IntKind.wrap_i64]; omega) 1 (by decide) m (by omega) (by omega)

theorem okm_of {m : Int} (h1 : 16 ≤ m) (h2 : m ≤ 1024) : okm m = (m % 2 == 0) := by
  unfold okm; by_cases h : m % 2 = 0 <;> simp [h, h1, h2]

set_option maxHeartbeats 400000 in
theorem modulus_c (m : Int) (w : World) :
    Calls Try.prog 67 #[.int .i64 m] w fun e w' => e = .returned (.bool (okm m)) ∧ w = w' := by
  by_cases h1 : 16 ≤ m
  · by_cases h2 : m ≤ 1024
    · rw [okm_of h1 h2]
      go_enter Try.func67, Try.ntmps67
      go_wp2
      go_ret
      exact ⟨retB (by rw [and_one m h1 h2]), rfl⟩
    · have h : okm m = false := by unfold okm; simp; omega
      rw [h]
      go_enter Try.func67, Try.ntmps67
      go_wp2
      go_ret
      exact ⟨rfl, rfl⟩
  · have h : okm m = false := by unfold okm; simp; omega
    rw [h]
    go_enter Try.func67, Try.ntmps67
    go_wp2
    go_ret
    exact ⟨rfl, rfl⟩

theorem tmod_bd (n m : Int) (h : 16 ≤ m) : -m < n.tmod m ∧ n.tmod m < m := by
  have h1 := Int.tmod_lt_of_pos n (b := m) (by omega)
  have h2 := Int.lt_tmod_of_pos n (b := m) (by omega)
  exact ⟨h2, h1⟩

theorem ring_eq (n m : Int) (h : 16 ≤ m) : (n.tmod m + m) % m = n % m := by
  rw [Int.tmod_eq_emod]
  split
  · simp
  · have : ((m.natAbs : Nat) : Int) = m := by omega
    rw [this]
    simp

set_option maxHeartbeats 400000 in
theorem ring_c (m n : Int) (w : World) (h1 : 16 ≤ m) (h2 : m ≤ 1024) :
    Calls Try.prog 55 #[.int .i64 m, .int .i64 n] w fun e w' => e = .returned (.int .i64 (n % m)) ∧ w = w' := by
  have hb := tmod_bd n m h1
  obtain ⟨hb1, hb2⟩ := hb
  go_enter Try.func55, Try.ntmps55
  go_wp2
  go_ret
  exact ⟨retI (ring_eq n m h1), rfl⟩

theorem getD_get (xs : List Int) (k : Nat) (h : k < xs.length) : xs.getD k 0 = xs[k] := by simp [List.getD, h]

theorem all_take_succ (p : Int → Bool) (xs : List Int) (k : Nat) (h : k < xs.length) : (xs.take (k + 1)).all p = ((xs.take k).all p && p (xs.getD k 0)) := by
  rw [List.take_succ_eq_append_getElem h, List.all_append, getD_get _ _ h]; simp

theorem all_false (p : Int → Bool) (xs : List Int) (k : Nat) (h : k < xs.length) (hp : p (xs.getD k 0) = false) : xs.all p = false := by
  rw [List.all_eq_false]
  refine ⟨xs.getD k 0, ?_, by rw [hp]; simp⟩
  rw [getD_get _ _ h]; exact List.getElem_mem h

theorem okx_no {m x : Int} (h : x < 1 ∨ m < x) : okx m x = false := by unfold okx; simp; omega
theorem okx_yes {m x : Int} (h : 1 ≤ x) (h' : x ≤ m) : okx m x = true := by unfold okx; simp; omega

set_option maxHeartbeats 400000 in
theorem ids_c (m : Int) (b : Nat) (xs : List Int) (cap : Nat) (w : World) (hlen : xs.length ≤ 1000)
    (hc : ∀ k, k < xs.length → w.cell? ⟨b, k, none⟩ = some (.int .i64 (xs.getD k 0))) :
    Calls Try.prog 54 #[.int .i64 m, .slice (some ⟨b, 0, none⟩) xs.length cap] w fun e w' => e = .returned (.bool (xs.all (okx m) && okm m)) ∧ w = w' := by
  have HC : Hid (∀ k, k < xs.length → w.cell? ⟨b, k, none⟩ = some (.int .i64 (xs.getD k 0))) := hc
  clear hc
  go_enter Try.func54, Try.ntmps54
  go_wp2_with fail
  go_loop [9] (fun i => ∃ k : Nat, k ≤ xs.length ∧ i = .int .i64 k ∧ Hid ((xs.take k).all (okx m) = true)) (fun i => xs.length - (intOf i).toNat)
  case atStart => exact ⟨0, Nat.zero_le _, rfl, by simp [Hid]⟩
  case round =>
    obtain ⟨k, hk, rfl, hall⟩ := hrel
    by_cases hlt : k < xs.length
    · have hcell := HC.out k hlt
      have HR : Hid (∀ x : Int, x = xs.getD k 0 → (x < 1 ∨ m < x) → (xs.all (okx m) && okm m) = false) := fun x hx h => by
        rw [all_false (okx m) xs k hlt (by rw [← hx]; exact okx_no h)]; rfl
      have HS : Hid (∀ x : Int, x = xs.getD k 0 → 1 ≤ x → x ≤ m → (xs.take (k + 1)).all (okx m) = true) := fun x hx h h' => by
        rw [all_take_succ _ _ _ hlt, hall.out, ← hx, okx_yes h h']; rfl
      generalize hx : xs.getD k 0 = x at hcell
      have HX := Lib.hid hx
      clear hx
      by_cases h1 : x < 1
      · go_wp2_with fail
        go_ret
        exact ⟨retB (HR.out x HX.out.symm (Or.inl h1)).symm, rfl⟩
      · by_cases h2 : m < x
        · go_wp2_with fail
          go_ret
          exact ⟨retB (HR.out x HX.out.symm (Or.inr h2)).symm, rfl⟩
        · go_wp2_with fail
          go_round
          case rel => exact ⟨k + 1, by omega, by go_num, HS.out x HX.out.symm (by omega) (by omega)⟩
          case measure => simp [intOf]; omega
    · have HA : Hid ((xs.all (okx m) && okm m) = okm m) := by
        have := hall.out; rw [List.take_of_length_le (by omega)] at this; unfold Hid; rw [this]; simp
      go_wp2_with fail
      refine (modulus_c m _).mono ?_
      rintro e w' ⟨rfl, rfl⟩
      go_wp2_with fail
      go_ret
      exact ⟨retB HA.out.symm, rfl⟩

theorem ids1_c (m x : Int) (b : Nat) (cap : Nat) (w : World) (hc : w.cell? ⟨b, 0, none⟩ = some (.int .i64 x)) :
    Calls Try.prog 54 #[.int .i64 m, .slice (some ⟨b, 0, none⟩) 1 cap] w fun e w' => e = .returned (.bool (okx m x && okm m)) ∧ w = w' := by
  refine (ids_c m b [x] cap w (by simp) ?_).mono ?_
  · intro k hk; match k, hk with
    | 0, _ => exact hc
  · rintro e w' ⟨rfl, rfl⟩; exact ⟨by simp, rfl⟩

theorem ids2_c (m x y : Int) (b : Nat) (cap : Nat) (w : World) (hc : w.cell? ⟨b, 0, none⟩ = some (.int .i64 x)) (hd : w.cell? ⟨b, 1, none⟩ = some (.int .i64 y)) :
    Calls Try.prog 54 #[.int .i64 m, .slice (some ⟨b, 0, none⟩) 2 cap] w fun e w' => e = .returned (.bool (okx m x && okx m y && okm m)) ∧ w = w' := by
  refine (ids_c m b [x, y] cap w (by simp) ?_).mono ?_
  · intro k hk; match k, hk with
    | 0, _ => exact hc
    | 1, _ => exact hd
  · rintro e w' ⟨rfl, rfl⟩; exact ⟨by simp, rfl⟩

/-- The id n steps further on; 0: there is none. -/
def xadd (m x n : Int) : Int := if okx m x && okm m then (x - 1 + n) % m + 1 else 0
/-- The steps from an id to another one. -/
def xgap (m a b : Int) : Int := if okx m a && okx m b && okm m then (b - a) % m else 0

theorem okm_bd {m : Int} (h : okm m = true) : 16 ≤ m ∧ m ≤ 1024 ∧ m % 2 = 0 := by unfold okm at h; simpa using h
theorem okx_bd {m x : Int} (h : okx m x = true) : 1 ≤ x ∧ x ≤ m := by unfold okx at h; simpa using h

set_option maxHeartbeats 400000 in
theorem add_c (m x n : Int) (w : World) :
    Calls Try.prog 34 #[.int .i64 m, .int .i64 x, .int .i64 n] w fun e w' => e = .returned (.int .i64 (xadd m x n)) ∧ Below w.heap.size w w' := by
  by_cases h : (okx m x && okm m) = true
  · have hx : Hid (xadd m x n = (x - 1 + n) % m + 1) := by unfold Hid xadd; rw [if_pos h]
    obtain ⟨a1, a2⟩ := okx_bd (Bool.and_eq_true_iff.1 h).1
    obtain ⟨b1, b2, _⟩ := okm_bd (Bool.and_eq_true_iff.1 h).2
    have H := Lib.hid h; clear h
    have c1 := Int.emod_nonneg n (b := m) (by omega)
    have c2 := Int.emod_lt_of_pos n (b := m) (by omega)
    have d1 := Int.emod_nonneg (x - 1 + n) (b := m) (by omega)
    have d2 := Int.emod_lt_of_pos (x - 1 + n) (b := m) (by omega)
    go_enter Try.func34, Try.ntmps34
    go_wp2_with fail
    refine (ids1_c m x _ _ _ (by simp)).mono ?_
    rintro e w' ⟨rfl, rfl⟩
    rw [H.out]
    go_wp2_with fail
    refine (ring_c _ _ _ b1 b2).mono ?_
    rintro e w' ⟨rfl, rfl⟩
    go_wp2_with fail
    refine (ring_c _ _ _ b1 b2).mono ?_
    rintro e w' ⟨rfl, rfl⟩
    go_wp2_with fail
    go_ret
    exact ⟨retI hx.out.symm, by go_grown⟩
  · have hx : Hid (xadd m x n = 0) := by unfold Hid xadd; rw [if_neg h]
    have H : Hid ((okx m x && okm m) = false) := by unfold Hid; simpa using h
    clear h
    go_enter Try.func34, Try.ntmps34
    go_wp2_with fail
    refine (ids1_c m x _ _ _ (by simp)).mono ?_
    rintro e w' ⟨rfl, rfl⟩
    rw [H.out]
    go_wp2_with fail
    go_ret
    exact ⟨retI hx.out.symm, by go_grown⟩

set_option maxHeartbeats 400000 in
theorem gap_c (m a b : Int) (w : World) :
    Calls Try.prog 33 #[.int .i64 m, .int .i64 a, .int .i64 b] w fun e w' => e = .returned (.int .i64 (xgap m a b)) ∧ Below w.heap.size w w' := by
  by_cases h : (okx m a && okx m b && okm m) = true
  · have hx : Hid (xgap m a b = (b - a) % m) := by unfold Hid xgap; rw [if_pos h]
    obtain ⟨a1, a2⟩ := okx_bd (Bool.and_eq_true_iff.1 (Bool.and_eq_true_iff.1 h).1).1
    obtain ⟨a3, a4⟩ := okx_bd (Bool.and_eq_true_iff.1 (Bool.and_eq_true_iff.1 h).1).2
    obtain ⟨b1, b2, _⟩ := okm_bd (Bool.and_eq_true_iff.1 h).2
    have H := Lib.hid h; clear h
    go_enter Try.func33, Try.ntmps33
    go_wp2_with fail
    refine (ids2_c m a b _ _ _ (by simp) (by simp)).mono ?_
    rintro e w' ⟨rfl, rfl⟩
    rw [H.out]
    go_wp2_with fail
    refine (ring_c _ _ _ b1 b2).mono ?_
    rintro e w' ⟨rfl, rfl⟩
    go_wp2_with fail
    go_ret
    exact ⟨retI hx.out.symm, by go_grown⟩
  · have hx : Hid (xgap m a b = 0) := by unfold Hid xgap; rw [if_neg h]
    have H : Hid ((okx m a && okx m b && okm m) = false) := by unfold Hid; simpa using h
    clear h
    go_enter Try.func33, Try.ntmps33
    go_wp2_with fail
    refine (ids2_c m a b _ _ _ (by simp) (by simp)).mono ?_
    rintro e w' ⟨rfl, rfl⟩
    rw [H.out]
    go_wp2_with fail
    go_ret
    exact ⟨retI hx.out.symm, by go_grown⟩

/-- Whether an id is ahead of another one. -/
def xbef (m a b : Int) : Bool := decide (0 < xgap m a b ∧ xgap m a b < m / 2)

theorem xgap_bd (m a b : Int) : 0 ≤ xgap m a b ∧ xgap m a b ≤ 1024 ∧ (okm m = false → xgap m a b = 0) := by
  unfold xgap
  split
  · rename_i h
    obtain ⟨b1, b2, _⟩ := okm_bd (Bool.and_eq_true_iff.1 h).2
    have c1 := Int.emod_nonneg (b - a) (b := m) (by omega)
    have c2 := Int.emod_lt_of_pos (b - a) (b := m) (by omega)
    refine ⟨c1, by omega, fun h' => ?_⟩
    rw [(Bool.and_eq_true_iff.1 h).2] at h'; simp at h'
  · simp

end Go.Proofs.Ytpmhcpphbilokaa
