/- The plain law of numbers and texts: what is laid is taken, what is taken is laid. -/
import Derived.Test.YtkjnjccjkjachaaBitsP
namespace Go.Proofs.Ytkjnjccjkjachaa
open Go.RowKit
set_option linter.unusedSimpArgs false
set_option maxRecDepth 100000

theorem rd_sev (most : Int) : ∀ (f n k acc : Nat) (r : List UInt8), n < 128 ^ f → 0 < f → (n = 0 → k = 0) → ((acc + n * 128 ^ k : Nat) : Int) ≤ max most 0 →
    rd most f k acc (sev n ++ r) = .inr (acc + n * 128 ^ k, k + (sev n).length) := by
  intro f
  induction f with
  | zero => intro n k acc r _ h; omega
  | succ f ih =>
    intro n k acc r hn _ h0 hm
    by_cases h : n < 128
    · have e : (UInt8.ofNat n).toNat = n := by simp; omega
      rw [sev_low h, List.cons_append, List.nil_append, rd_ok, e, Nat.mod_eq_of_lt h]
      · rfl
      · rw [e]; intro hh; have := h0 hh.1; omega
      · rw [e]; omega
      · rw [e, Nat.mod_eq_of_lt h]; omega
    · have e : (UInt8.ofNat (n % 128 + 128)).toNat = n % 128 + 128 := by simp; omega
      have e2 : (n % 128 + 128) % 128 = n % 128 := by omega
      have hp : acc + n % 128 * 128 ^ k + n / 128 * 128 ^ (k + 1) = acc + n * 128 ^ k := by
        have h1 : n = n % 128 + 128 * (n / 128) := (Nat.mod_add_div n 128).symm
        have h2 : n * 128 ^ k = n % 128 * 128 ^ k + n / 128 * 128 ^ (k + 1) := by
          conv => lhs; rw [h1]
          rw [Nat.add_mul, Nat.pow_succ, Nat.mul_comm 128 (n / 128), Nat.mul_assoc, Nat.mul_comm 128 (128 ^ k)]
        omega
      have hf : 0 < f := by
        rcases Nat.eq_zero_or_pos f with h1 | h1
        · subst h1; omega
        · exact h1
      rw [sev_high h, List.cons_append, rd_go _ _ _ _ _ _ (by rw [e]; omega), e, e2, ih (n / 128) (k + 1) _ r (by rw [Nat.pow_succ] at hn; omega) hf (by omega) (by rw [hp]; exact hm), hp]
      simp only [List.length_cons]
      congr 2
      omega
theorem rd_inv (most : Int) : ∀ (f k acc : Nat) (l : List UInt8) (m k' : Nat), rd most f k acc l = .inr (m, k') →
    ∃ n r, l = sev n ++ r ∧ m = acc + n * 128 ^ k ∧ k' = k + (sev n).length ∧ (n = 0 → k = 0) := by
  intro f
  induction f with
  | zero => intro k acc l m k' h; rw [rd] at h; cases h
  | succ f ih =>
    intro k acc l m k' h
    cases l with
    | nil => rw [rd] at h; cases h
    | cons b l =>
      have hb := b.toNat_lt
      rw [rd] at h
      split at h
      · cases h
      · rename_i h0
        split at h
        · rename_i hg
          obtain ⟨n, r, hl, hm, hk, hn⟩ := ih _ _ _ _ _ h
          have hn0 : n ≠ 0 := fun e => by have := hn e; omega
          have hh : ¬ (b.toNat % 128 + 128 * n) < 128 := by omega
          have e1 : (b.toNat % 128 + 128 * n) % 128 + 128 = b.toNat := by omega
          have e2 : (b.toNat % 128 + 128 * n) / 128 = n := by omega
          refine ⟨b.toNat % 128 + 128 * n, r, ?_, ?_, ?_, by omega⟩
          · rw [sev_high hh, e1, e2, hl]; simp
          · rw [hm, Nat.add_mul, Nat.pow_succ, Nat.mul_comm 128 n, Nat.mul_assoc, Nat.mul_comm 128 (128 ^ k)]; omega
          · rw [sev_high hh, e2, hk]; simp only [List.length_cons]; omega
        · split at h
          · cases h
          · injection h with h; injection h with h1 h2
            rename_i hg _
            refine ⟨b.toNat, l, ?_, ?_, ?_, ?_⟩
            · rw [sev_low (by omega)]; simp
            · rw [← h1, Nat.mod_eq_of_lt (by omega)]
            · rw [sev_low (by omega), ← h2]; simp
            · intro e; exact Nat.eq_zero_of_not_pos (fun hk => h0 ⟨e, hk⟩)

theorem rd_inl (most : Int) : ∀ (f k acc : Nat) (l : List UInt8) (c : Nat), rd most f k acc l = .inl c → c = 10 ∨ c = 11 := by
  intro f
  induction f with
  | zero => intro k acc l c h; rw [rd] at h; injection h with h; omega
  | succ f ih =>
    intro k acc l c h
    cases l with
    | nil => rw [rd] at h; injection h with h; omega
    | cons b l =>
      rw [rd] at h
      split at h
      · injection h with h; omega
      · split at h
        · exact ih _ _ _ _ h
        · split at h
          · injection h with h; omega
          · cases h
theorem numOut_sev (n : Nat) (r : List UInt8) (most : Int) (hn : n < 9223372036854775808) (hm : (n : Int) ≤ max most 0) : numOut ⟨(sev n ++ r).toArray⟩ most = ((n : Int), ⟨r.toArray⟩, 0) := by
  unfold numOut
  rw [List.toList_toArray, rd_sev most 9 n 0 0 r (by omega) (by omega) (fun _ => rfl) (by simpa using hm)]
  simp
theorem numOut_inv (s : ByteArray) (most : Int) (n : Nat) (r : ByteArray) (h : numOut s most = ((n : Int), r, 0)) : s.data.toList = sev n ++ r.data.toList := by
  unfold numOut at h
  split at h
  · rename_i c hc
    injection h with _ h2; injection h2 with _ h3
    have := rd_inl most _ _ _ _ _ hc
    omega
  · rename_i m k hx
    injection h with h1 h2; injection h2 with h2 _
    obtain ⟨n', r', hl, hm, hk, _⟩ := rd_inv most 9 0 0 _ _ _ hx
    have e : n' = n := by simp at hm; omega
    subst e
    rw [← h2, List.toList_toArray, hl]
    simp at hk
    rw [hk]; simp
theorem txl_len {s : ByteArray} (h : s.size ≤ 9223372036854775807) : (txl s).length ≤ 9 + s.size := by
  have h1 := sev_len (n := s.size) (by omega)
  have h2 : s.data.toList.length = s.size := Array.length_toList
  unfold txl
  rw [List.length_append]
  omega
theorem textOut_txl (s : ByteArray) (r : List UInt8) (hs : s.size ≤ 9223372036854775807) : textOut ⟨(txl s ++ r).toArray⟩ s.size = (s, ⟨r.toArray⟩, 0) := by
  have h1 := numOut_sev s.size (s.data.toList ++ r) s.size (by omega) (by omega)
  have h2 : s.data.toList.length = s.size := Array.length_toList
  have h3 : ¬ (((ByteArray.size ⟨(s.data.toList ++ r).toArray⟩ : Nat) : Int) < (s.size : Int)) := by
    have : ByteArray.size ⟨(s.data.toList ++ r).toArray⟩ = s.size + r.length := by
      show (s.data.toList ++ r).toArray.size = _
      rw [List.size_toArray, List.length_append, h2]
    omega
  unfold textOut txl
  rw [List.append_assoc, h1]
  simp only [ne_eq, not_true_eq_false, if_false, if_neg h3, Int.toNat_natCast, List.toList_toArray]
  rw [← h2, List.take_left, List.drop_left]

end Go.Proofs.Ytkjnjccjkjachaa
