/- The reference's slots: the first free one; dead ones. -/
import Derived.Test.YtioinjnignajnaaTupI
namespace Go.Proofs.Ytioinjnignajnaa
open Go.RowKit
set_option linter.unusedSimpArgs false

set_option maxRecDepth 100000 in
set_option maxHeartbeats 1000000 in
theorem rslot_c (a0 a1 a2 a3 : Int) (h : ByteArray) (ao : Option Addr) (len cap n : Nat) (S : Nat → ByteArray) (w : World) (hlen : len ≤ 9223372036854775807) (hs : StrsIn w ao len S) (hn : isFst S len n) :
    Calls Try.prog 22 #[.agg #[.int .i64 a0, .int .i64 a1, .int .i64 a2, .int .i64 a3, .string h, .slice ao len cap]] w fun e w' => e = .returned (.int .i64 n) ∧ Below w.heap.size w w' := by
  obtain ⟨wb, hwb⟩ : ∃ wb, wb = w.alloc (.cells #[.int .i64 a0, .int .i64 a1, .int .i64 a2, .int .i64 a3, .string h, .slice ao len cap] 41) := ⟨_, rfl⟩
  obtain ⟨bt, hbt⟩ : ∃ bt, bt = w.heap.size := ⟨_, rfl⟩
  have H0 : Hid (PB w wb bt a0 a1 a2 a3 h ao len cap S) := by rw [hwb, hbt]; exact PB.new w a0 a1 a2 a3 h ao len cap S hs
  have HWB := Lib.hid hwb
  have HBT := Lib.hid hbt
  have HN := Lib.hid hn
  have c5 := H0.out.cell.2.2.2.2.2
  clear hwb hbt hs hn
  go_enter Try.func22, Try.ntmps22
  go_wp2_with fail
  rw [← HWB.out, ← HBT.out]
  clear HWB HBT
  go_loop [3] (fun i => ∃ k : Nat, k ≤ len ∧ i = .int .i64 k ∧ Hid (k ≤ n)) (fun i => len - (intOf i).toNat)
  case atStart => exact ⟨0, Nat.zero_le _, rfl, Nat.zero_le n⟩
  case round =>
    obtain ⟨k, hk, rfl, HK⟩ := hrel
    by_cases hlt : k < len
    · obtain ⟨b, off, rfl, hc, _⟩ := H0.out.it k hlt
      have hke := empty_iff (S k)
      by_cases hz : (S k).size = 0
      · rw [decide_eq_true hz] at hke
        have HR : Hid ((k : Int) = (n : Int)) := by
          have h1 := HK.out
          have h2 := HN.out.2.1 k
          unfold Hid
          rcases Nat.lt_or_ge k n with h3 | h3
          · exact absurd hz (h2 h3)
          · omega
        generalize S k = s at *
        clear hz
        go_wp2_with fail
        go_ret
        exact ⟨retI HR.out, H0.out.bel⟩
      · rw [decide_eq_false hz] at hke
        have HK2 : Hid (k + 1 ≤ n) := by
          have h1 := HK.out
          have h3 := HN.out.2.2
          have h4 := HN.out.1
          unfold Hid
          rcases Nat.lt_or_ge k n with h5 | h5
          · omega
          · have e : n = k := by omega
            subst e
            exact absurd (h3 hlt) hz
        generalize S k = s at *
        clear hz
        go_wp2_with fail
        go_round
        case rel => exact ⟨k + 1, by omega, by go_num, HK2⟩
        case measure => simp [intOf]; omega
    · have HR : Hid ((len : Int) = (n : Int)) := by
        have h1 := HK.out
        have h4 := HN.out.1
        unfold Hid; omega
      go_wp2_with fail
      go_ret
      exact ⟨retI HR.out, H0.out.bel⟩

/-- The plain form of a dead slot. -/
theorem bur_four (s : ByteArray) (r : List UInt8) (h : s.data.toList = 4 :: r) : burV s = if endV (textOut ⟨r.toArray⟩ 24).2.1.size (textOut ⟨r.toArray⟩ 24).2.2 = 0 ∧ kok (textOut ⟨r.toArray⟩ 24).1 = true then some (textOut ⟨r.toArray⟩ 24).1 else none := by
  have hs : s = ⟨(sev 4 ++ r).toArray⟩ := by
    rw [sev4]
    apply ByteArray.ext
    apply Array.ext'
    rw [h, List.toList_toArray]
    rfl
  have e1 : numOut s 4 = (4, ⟨r.toArray⟩, 0) := by rw [hs]; exact numOut_sev 4 r 4 (by decide) (by decide)
  have e2 : stepT ⟨r.toArray⟩ 0 24 = textOut ⟨r.toArray⟩ 24 := by unfold stepT; rw [if_pos rfl]
  have hle := textOut_le ⟨r.toArray⟩ 24
  unfold burV
  rw [e1]
  show (if endV (stepT ⟨r.toArray⟩ 0 24).2.1.size (stepT ⟨r.toArray⟩ 0 24).2.2 = 0 ∧ (4 : Int) = 4 ∧ (stepT ⟨r.toArray⟩ 0 24).1.size ≠ 0 then some (stepT ⟨r.toArray⟩ 0 24).1 else none) = _
  rw [e2]
  generalize textOut ⟨r.toArray⟩ 24 = o at *
  by_cases h1 : endV o.2.1.size o.2.2 = 0
  · by_cases h2 : o.1.size = 0
    · rw [if_neg (fun h => h.2.2 h2), if_neg]
      rintro ⟨_, h3⟩
      have := (kok_yes h3).1
      omega
    · rw [if_pos ⟨h1, rfl, h2⟩, if_pos ⟨h1, by simp [kok]; omega⟩]
  · rw [if_neg (fun h => h1 h.1), if_neg (fun h => h1 h.1)]
theorem bur_not (s : ByteArray) (h : hd s ≠ 4) : burV s = none := by
  cases hb : burV s with
  | none => rfl
  | some k =>
    exfalso
    apply h
    unfold hd
    rw [(dead_bur s k hb).1]
    rfl

set_option maxRecDepth 100000 in
set_option maxHeartbeats 2000000 in
theorem rbur_c (s : ByteArray) (w : World) (hs : s.size ≤ 9223372036854775000) :
    Calls Try.prog 41 #[.string s] w fun e w' => (∃ K, e = .returned (.tuple #[.string K, .bool (burV s).isSome]) ∧ (∀ k, burV s = some k → K = k)) ∧ Below w.heap.size w w' := by
  have hke := empty_iff s
  by_cases h0 : s.size = 0
  · rw [decide_eq_true h0] at hke
    have HN := Lib.hid (bur_empty h0)
    clear h0 hs
    go_enter Try.func41, Try.ntmps41
    go_wp2_with fail
    go_ret2
    rw [HN.out]
    exact ⟨⟨_, rfl, fun k h => by cases h⟩, Below.refl _ _⟩
  · rw [decide_eq_false h0] at hke
    have hpos : 0 < s.size := Nat.pos_of_ne_zero h0
    have hb0 := hd_eq s hpos
    have hi1 : (1 : Int) ≤ (s.size : Int) := by omega
    by_cases h4 : hd s = 4
    · rw [h4] at hb0
      obtain ⟨L, hL⟩ : ∃ L, L = s.data.toList := ⟨_, rfl⟩
      have hlen : L.length = s.size := by rw [hL]; exact Array.length_toList
      obtain ⟨r, hr⟩ : ∃ r, s.data.toList = 4 :: r := by
        match L, hL, hlen with
        | b0 :: r, hL, _ =>
          refine ⟨r, ?_⟩
          rw [← hL]
          have : hd s = b0.toNat := by unfold hd; rw [← hL]; rfl
          rw [h4] at this
          congr 1
          exact u8ext this.symm
        | [], _, hl => simp at hl; omega
      have hx : s.extract 1 s.size = ⟨r.toArray⟩ := by rw [sub_drop, hr]; rfl
      have hxs : (⟨r.toArray⟩ : ByteArray).size ≤ 9223372036854775000 := by rw [← hx, ByteArray.size_extract]; omega
      have HD := Lib.hid (bur_four s r hr)
      clear hL hlen hr h0 hs h4
      obtain ⟨R, hR⟩ : ∃ R : ByteArray, R = ⟨r.toArray⟩ := ⟨_, rfl⟩
      rw [← hR] at hx hxs HD
      clear hR
      have hd0 : dropS R 0 = R := by unfold dropS; simp
      have CT := Lib.hid (fun b w h => rftext_c b R 0 24 w h hxs)
      rw [hd0] at CT
      generalize textOut R 24 = o at CT HD
      obtain ⟨K, r1, c1⟩ := o
      clear hxs hd0
      go_enter Try.func41, Try.ntmps41
      go_wp2_with fail
      obtain ⟨w1, hw1⟩ : ∃ w1, w1 = w.alloc (.cells #[.string R, .int .i64 0, .int .i64 0] 59) := ⟨_, rfl⟩
      have HRF : Hid (RfV w1 w.heap.size R 0 0) := by rw [hw1]; exact ⟨by simp [go_sem], by simp [go_sem], by simp [go_sem], by simp [go_sem], by simp [go_sem], Nat.zero_le _⟩
      have HB1 : Hid (Below w.heap.size w w1) := by rw [hw1]; exact (Below.refl _ w).alloc (Nat.le_refl _) _
      rw [← hw1]
      clear hw1
      obtain ⟨bx, hbx⟩ : ∃ bx, bx = w.heap.size := ⟨_, rfl⟩
      have HBX := Lib.hid hbx
      rw [← hbx] at HRF ⊢
      clear hbx
      refine (CT.out bx w1 HRF.out).mono ?_
      rintro e w2 ⟨rfl, ⟨a1, hr2, hd2⟩, hg2⟩
      have HR2 := Lib.hid hr2
      have HB2 := Lib.hid (HB1.out.grown hg2 HB1.out.size (by rintro j hj; cases hj; rw [HBX.out]; exact Nat.le_refl _))
      have HE : Hid (leftV R a1 c1 = r1.size ∨ c1 ≠ 0) := by
        unfold Hid
        by_cases hc : c1 = 0
        · left; unfold leftV; rw [if_pos hc, hd2 hc, dropS_size]
        · exact .inr hc
      have HEV : Hid (endV (leftV R a1 c1) c1 = endV r1.size c1 ∨ (endV (leftV R a1 c1) c1 ≠ 0 ∧ endV r1.size c1 ≠ 0)) := by
        unfold Hid
        rcases HE.out with h | h
        · rw [h]; exact .inl rfl
        · right; unfold endV; rw [if_neg (fun q => h q.1), if_neg (fun q => h q.1)]; exact ⟨h, h⟩
      clear hr2 hd2 hg2 HE
      go_wp2_with fail
      refine (rend_c bx R a1 c1 _ HR2.out).mono ?_
      rintro e w3 ⟨rfl, hb3⟩
      have HB3 := Lib.hid (HB2.out.trans (hb3.mono HB2.out.size))
      clear hb3
      generalize endV (leftV R a1 c1) c1 = E at *
      generalize endV r1.size c1 = E2 at *
      by_cases hE : E = 0
      · have hE2 : E2 = 0 := by rcases HEV.out with h | h; · omega
                                · exact absurd hE h.1
        subst hE
        cases hk : kok K
        · have HN : Hid (burV s = none) := by unfold Hid; rw [HD.out, if_neg]; rintro ⟨_, h⟩; rw [hk] at h; cases h
          have CK := Lib.hid (fun w => right_c K w)
          rw [hk] at CK
          go_wp2_with fail
          refine (CK.out _).mono ?_
          rintro e w4 ⟨rfl, rfl⟩
          go_wp2_with fail
          go_ret2
          rw [HN.out]
          exact ⟨⟨_, rfl, fun k h => by cases h⟩, HB3.out⟩
        · have HN : Hid (burV s = some K) := by unfold Hid; rw [HD.out, if_pos ⟨hE2, hk⟩]
          have CK := Lib.hid (fun w => right_c K w)
          rw [hk] at CK
          go_wp2_with fail
          refine (CK.out _).mono ?_
          rintro e w4 ⟨rfl, rfl⟩
          go_wp2_with fail
          go_ret2
          rw [HN.out]
          exact ⟨⟨_, rfl, fun k h => by injection h⟩, HB3.out⟩
      · have hE2 : E2 ≠ 0 := by rcases HEV.out with h | h; · omega
                                · exact h.2
        have HN : Hid (burV s = none) := by unfold Hid; rw [HD.out, if_neg]; rintro ⟨h, _⟩; exact hE2 h
        have hE1 : (E == 0) = false := by rw [beq_eq_false_iff_ne]; exact hE
        clear hE hE2
        go_wp2_with fail
        go_ret2
        rw [HN.out]
        exact ⟨⟨_, rfl, fun k h => by cases h⟩, HB3.out⟩
    · have HN := Lib.hid (bur_not s h4)
      rw [← hb0] at h4
      have hb4 : ((s[0].toNat : Int) == 4) = false := by rw [beq_eq_false_iff_ne]; omega
      have hb5 : ((s[0].toNat : Int) != 4) = true := by simp [bne, hb4]
      clear hb0 h4 h0 hs
      go_enter Try.func41, Try.ntmps41
      go_wp2_with fail
      go_ret2
      rw [HN.out]
      exact ⟨⟨_, rfl, fun k h => by cases h⟩, Below.refl _ _⟩
end Go.Proofs.Ytioinjnignajnaa
