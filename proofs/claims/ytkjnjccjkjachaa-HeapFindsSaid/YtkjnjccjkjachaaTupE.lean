/- The plain laws of versions' bytes. -/
import Derived.Test.YtkjnjccjkjachaaTupD
namespace Go.Proofs.Ytkjnjccjkjachaa
open Go.RowKit
set_option linter.unusedSimpArgs false
set_option maxRecDepth 100000

theorem textOut_inv (s : ByteArray) (most : Int) (h : (textOut s most).2.2 = 0) : s.data.toList = txl (textOut s most).1 ++ (textOut s most).2.1.data.toList := by
  rcases numOut_cases s most with ⟨c', hn, hc'⟩ | ⟨n, r, hn⟩
  · have e : textOut s most = (⟨#[]⟩, ⟨#[]⟩, (c' : Int)) := by unfold textOut; rw [hn]; simp; omega
    rw [e] at h; simp at h; omega
  · have e : textOut s most = if (r.size : Int) < n then (⟨#[]⟩, ⟨#[]⟩, 10) else (⟨(r.data.toList.take n).toArray⟩, ⟨(r.data.toList.drop n).toArray⟩, 0) := by unfold textOut; rw [hn]; simp
    by_cases hlt : (r.size : Int) < n
    · rw [e, if_pos hlt] at h; cases h
    · rw [e, if_neg hlt, numOut_inv s most n r hn]
      have hs : (ByteArray.size ⟨(r.data.toList.take n).toArray⟩) = n := by
        show (r.data.toList.take n).toArray.size = n
        rw [List.size_toArray, List.length_take, Array.length_toList]
        exact Nat.min_eq_left (by have : r.data.size = r.size := rfl; omega)
      unfold txl
      rw [hs]
      simp
theorem textOut_txm (s : ByteArray) (r : List UInt8) (most : Int) (hs : s.size ≤ 9223372036854775807) (hm : (s.size : Int) ≤ max most 0) : textOut ⟨(txl s ++ r).toArray⟩ most = (s, ⟨r.toArray⟩, 0) := by
  have h1 := numOut_sev s.size (s.data.toList ++ r) most (by omega) hm
  have h2 : s.data.toList.length = s.size := Array.length_toList
  have h3 : ¬ (((ByteArray.size ⟨(s.data.toList ++ r).toArray⟩ : Nat) : Int) < (s.size : Int)) := by
    have : ByteArray.size ⟨(s.data.toList ++ r).toArray⟩ = s.size + r.length := by
      show (s.data.toList ++ r).toArray.size = _
      rw [List.size_toArray, List.length_append, h2]
    omega
  unfold textOut txl
  rw [List.append_assoc, h1]
  simp only [ne_eq, not_true_eq_false, if_false, if_neg h3, Int.toNat_natCast, List.toList_toArray]
  rw [← h2, List.take_left, List.drop_left]
theorem bigL2 (n : Nat) : bigL n 2 = [UInt8.ofNat (n / 256), UInt8.ofNat n] := by
  unfold bigL
  rw [show List.range 2 = [0, 1] from rfl]
  simp only [List.map_cons, List.map_nil, bigD]
  congr 2
  simp
theorem ofV2 (a b : UInt8) : ofV [a, b] = a.toNat * 256 + b.toNat := by
  have ha := a.toNat_lt
  have hb := b.toNat_lt
  unfold ofV ofR
  simp only [List.foldl_cons, List.foldl_nil]
  omega
theorem u8ext {a b : UInt8} (h : a.toNat = b.toNat) : a = b := UInt8.toNat_inj.1 h
theorem bigL2_ofV (a b : UInt8) : bigL (ofV [a, b]) 2 = [a, b] := by
  have ha := a.toNat_lt
  have hb := b.toNat_lt
  rw [ofV2, bigL2]
  congr 1
  · apply u8ext; first | (simp; done) | (simp; omega)
  · congr 1; apply u8ext; first | (simp; done) | (simp; omega)
theorem ofV_big (n : Nat) (h : n ≤ 1024) : ofV [UInt8.ofNat (n / 256), UInt8.ofNat n] = n := by
  rw [ofV2]; first | (simp; done) | (simp; omega)
theorem mk_size (l : List UInt8) : (⟨l.toArray⟩ : ByteArray).size = l.length := by show l.toArray.size = _; simp
theorem endV_zero {n : Nat} {c : Int} (h : endV n c = 0) : c = 0 ∧ n = 0 := by
  unfold endV at h
  split at h
  · cases h
  · rename_i h2
    subst h
    refine ⟨rfl, ?_⟩
    rcases Nat.eq_zero_or_pos n with h3 | h3
    · exact h3
    · exact absurd ⟨rfl, h3⟩ h2
theorem size_zero {r : ByteArray} (h : r.size = 0) : r.data.toList = [] := List.eq_nil_of_length_eq_zero (by rw [Array.length_toList]; exact h)

/-- What is written is read. -/
theorem dec_enc (x y : Int) (f : Bool) (k v : ByteArray) (h : encok x y k v = true) : decV ⟨(encL x y f k v).toArray⟩ = some (x, y, f, k, v) := by
  obtain ⟨x1, x2, y1, y2, k1, k2, v1⟩ := encok_yes h
  obtain ⟨X, rfl⟩ := Int.eq_ofNat_of_zero_le (show 0 ≤ x by omega)
  obtain ⟨Y, rfl⟩ := Int.eq_ofNat_of_zero_le y1
  have hL : encL (X : Int) (Y : Int) f k v = (if f then 3 else 1) :: UInt8.ofNat (X / 256) :: UInt8.ofNat X :: UInt8.ofNat (Y / 256) :: UInt8.ofNat Y :: (txl k ++ txl v) := by
    unfold encL; rw [Int.toNat_natCast, Int.toNat_natCast, bigL2, bigL2]; rfl
  rw [hL]
  obtain ⟨s, hs⟩ : ∃ s : ByteArray, s = ⟨((if f then 3 else 1) :: UInt8.ofNat (X / 256) :: UInt8.ofNat X :: UInt8.ofNat (Y / 256) :: UInt8.ofNat Y :: (txl k ++ txl v) : List UInt8).toArray⟩ := ⟨_, rfl⟩
  rw [← hs]
  have hl : s.data.toList = (if f then 3 else 1) :: UInt8.ofNat (X / 256) :: UInt8.ofNat X :: UInt8.ofNat (Y / 256) :: UInt8.ofNat Y :: (txl k ++ txl v) := by rw [hs, List.toList_toArray]
  have h5 : 5 ≤ s.size := by rw [hs, mk_size]; simp only [List.length_cons]; omega
  have hx : xV s = X := by unfold xV; rw [hl]; exact ofV_big X (by omega)
  have hy : yV s = Y := by unfold yV; rw [hl]; exact ofV_big Y (by omega)
  have hh : hd s = if f then 3 else 1 := by unfold hd; rw [hl]; cases f <;> rfl
  have hb : bodyV s = (k, v, ⟨#[]⟩, 0) := by
    unfold bodyV
    rw [sub_drop, hl]
    have e : (List.drop 5 ((if f then 3 else 1) :: UInt8.ofNat (X / 256) :: UInt8.ofNat X :: UInt8.ofNat (Y / 256) :: UInt8.ofNat Y :: (txl k ++ txl v) : List UInt8)) = txl k ++ txl v := rfl
    rw [e, textOut_txm k (txl v) 24 (by omega) (by omega)]
    have e2 := textOut_txm v [] 64 (by omega) (by omega)
    rw [List.append_nil] at e2
    show (k, (stepT ⟨(txl v).toArray⟩ 0 64).1, (stepT ⟨(txl v).toArray⟩ 0 64).2.1, (stepT ⟨(txl v).toArray⟩ 0 64).2.2) = _
    unfold stepT
    rw [if_pos rfl, e2]
  unfold decV
  rw [hb, hx, hy, hh, if_pos]
  · cases f <;> rfl
  · refine ⟨h5, ?_, rfl, h⟩
    cases f
    · exact .inl rfl
    · exact .inr rfl

/-- What is read is written. -/
theorem enc_dec (s : ByteArray) (x y : Int) (f : Bool) (k v : ByteArray) (h : decV s = some (x, y, f, k, v)) : s.data.toList = encL x y f k v ∧ encok x y k v = true := by
  unfold decV at h
  split at h
  · rename_i hc
    obtain ⟨h5, hh, he, hk⟩ := hc
    injection h with h
    injection h with e1 h; injection h with e2 h; injection h with e3 h; injection h with e4 e5
    subst e1; subst e2; subst e3; subst e4; subst e5
    refine ⟨?_, hk⟩
    obtain ⟨L, hL⟩ : ∃ L, L = s.data.toList := ⟨_, rfl⟩
    have hlen : L.length = s.size := by rw [hL]; exact Array.length_toList
    match L, hL, hlen with
    | b0 :: b1 :: b2 :: b3 :: b4 :: r, hL, _ =>
      have hx : xV s = ofV [b1, b2] := by unfold xV; rw [← hL]; rfl
      have hy : yV s = ofV [b3, b4] := by unfold yV; rw [← hL]; rfl
      have h0 : hd s = b0.toNat := by unfold hd; rw [← hL]; rfl
      have hR : s.extract 5 s.size = ⟨r.toArray⟩ := by rw [sub_drop, ← hL]; rfl
      unfold bodyV at he ⊢
      rw [hR] at he ⊢
      obtain ⟨hc, hz⟩ := endV_zero he
      have hz2 := size_zero hz
      have hc1 : (textOut ⟨r.toArray⟩ 24).2.2 = 0 := by
        unfold stepT at hc
        split at hc
        · assumption
        · exact hc
      have t1 := textOut_inv ⟨r.toArray⟩ 24 hc1
      rw [hc1] at hc hz2 ⊢
      have hst : stepT (textOut ⟨r.toArray⟩ 24).2.1 0 64 = textOut (textOut ⟨r.toArray⟩ 24).2.1 64 := by unfold stepT; rw [if_pos rfl]
      rw [hst] at hc hz2 ⊢
      have t2 := textOut_inv (textOut ⟨r.toArray⟩ 24).2.1 64 hc
      rw [hz2, List.append_nil] at t2
      rw [t2, List.toList_toArray] at t1
      rw [← hL]
      unfold encL
      rw [hx, hy, Int.toNat_natCast, Int.toNat_natCast, bigL2_ofV, bigL2_ofV]
      have hb0 : (if decide (hd s = 3) = true then (3 : UInt8) else 1) = b0 := by
        rw [h0] at hh ⊢
        rcases hh with e | e
        · rw [e]; exact (u8ext (by rw [e]; rfl)).symm
        · rw [e]; exact (u8ext (by rw [e]; rfl)).symm
      rw [hb0]
      exact congrArg (fun t => b0 :: b1 :: b2 :: b3 :: b4 :: t) t1
    | [], _, hl => simp at hl; omega
    | [_], _, hl => simp at hl; omega
    | [_, _], _, hl => simp at hl; omega
    | [_, _, _], _, hl => simp at hl; omega
    | [_, _, _, _], _, hl => simp at hl; omega
  · cases h

/-- A dead slot. -/
theorem bur_dead (k : ByteArray) (h : kok k = true) : burV ⟨(deadL k).toArray⟩ = some k := by
  obtain ⟨k1, k2⟩ := kok_yes h
  have e1 : numOut ⟨(deadL k).toArray⟩ 4 = (4, ⟨(txl k).toArray⟩, 0) := by
    have := numOut_sev 4 (txl k) 4 (by decide) (by decide)
    rw [sev4, deadL_eq] at this
    exact this
  have e2 := textOut_txm k [] 24 (by omega) (by omega)
  rw [List.append_nil] at e2
  have e3 : stepT ⟨(txl k).toArray⟩ 0 24 = (k, ⟨#[]⟩, 0) := by unfold stepT; rw [if_pos rfl, e2]
  unfold burV
  rw [e1]
  show (if endV (stepT ⟨(txl k).toArray⟩ 0 24).2.1.size (stepT ⟨(txl k).toArray⟩ 0 24).2.2 = 0 ∧ (4 : Int) = 4 ∧ (stepT ⟨(txl k).toArray⟩ 0 24).1.size ≠ 0 then some (stepT ⟨(txl k).toArray⟩ 0 24).1 else none) = some k
  rw [e3, if_pos]
  exact ⟨rfl, rfl, by show k.size ≠ 0; omega⟩
theorem dead_bur (s k : ByteArray) (h : burV s = some k) : s.data.toList = deadL k ∧ kok k = true := by
  unfold burV at h
  split at h
  · rename_i hc
    obtain ⟨he, hn, hk⟩ := hc
    obtain ⟨hc, hz⟩ := endV_zero he
    have hz2 := size_zero hz
    have hc1 : (numOut s 4).2.2 = 0 := by
      unfold stepT at hc
      split at hc
      · assumption
      · exact hc
    have hle := stepT_le (numOut s 4).2.1 (numOut s 4).2.2 24
    injection h with h
    rw [h] at hk hle
    rw [hc1] at h hc hz2
    have hst : stepT (numOut s 4).2.1 0 24 = textOut (numOut s 4).2.1 24 := by unfold stepT; rw [if_pos rfl]
    rw [hst] at h hc hz2
    have t2 := textOut_inv (numOut s 4).2.1 24 hc
    rw [hz2, List.append_nil, h] at t2
    have t1 := numOut_inv s 4 4 (numOut s 4).2.1 (by rw [← hc1]; exact Prod.ext hn rfl)
    rw [t2, sev4, deadL_eq] at t1
    refine ⟨t1, ?_⟩
    simp [kok]
    omega
  · cases h
theorem dec_dead (k : ByteArray) : decV ⟨(deadL k).toArray⟩ = none := by
  have hh : hd ⟨(deadL k).toArray⟩ = 4 := by unfold hd; rw [List.toList_toArray]; rfl
  unfold decV
  rw [hh, if_neg]
  rintro ⟨_, h, _⟩
  omega
theorem dec_empty {s : ByteArray} (h : s.size = 0) : decV s = none := by
  unfold decV; rw [if_neg]; rintro ⟨h5, _⟩; omega
theorem bur_empty {s : ByteArray} (h : s.size = 0) : burV s = none := by
  cases hb : burV s with
  | none => rfl
  | some k =>
    have := (dead_bur s k hb).1
    rw [size_zero h] at this
    cases this
end Go.Proofs.Ytkjnjccjkjachaa
