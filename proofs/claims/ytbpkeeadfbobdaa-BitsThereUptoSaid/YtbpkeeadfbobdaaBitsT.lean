/- The walk of BitsBack. -/
import Derived.Test.YtbpkeeadfbobdaaBitsS
import Derived.Deep.RegionHeld3
namespace Go.Proofs.Ytbpkeeadfbobdaa
open Go.RowKit
set_option linter.unusedSimpArgs false

/-- What an item lays, and the first k items. -/
def litem (K N : Nat → Int) (S : Nat → ByteArray) (i : Nat) : List UInt8 := if ((K i).tmod 3 == 0) = true then sev (N i).toNat else if ((K i).tmod 3 == 1) = true then txl (S i) else []
def laid (K N : Nat → Int) (S : Nat → ByteArray) : Nat → List UInt8
  | 0 => []
  | k + 1 => laid K N S k ++ litem K N S k
theorem itot_mono (S : Nat → ByteArray) {k : Nat} : ∀ {len : Nat}, k ≤ len → itot S k ≤ itot S len := by
  intro len
  induction len with
  | zero => intro h; rw [Nat.le_zero.1 h]; exact Nat.le_refl _
  | succ n ih =>
    intro h
    by_cases e : k = n + 1
    · subst e; exact Nat.le_refl _
    · have := ih (by omega); rw [itot]; omega
theorem itot_at (S : Nat → ByteArray) {k len : Nat} (h : k < len) : itot S k + ((S k).size + 1) ≤ itot S len := itot_mono S (k := k + 1) (by omega)
theorem itot_len (S : Nat → ByteArray) : ∀ len, len ≤ itot S len := by
  intro len
  induction len with
  | zero => exact Nat.zero_le _
  | succ n ih => rw [itot]; omega
theorem txl_len {s : ByteArray} (h : s.size ≤ 9223372036854775807) : (txl s).length ≤ 9 + s.size := by
  have h1 := sev_len (n := s.size) (by omega)
  have h2 : s.data.toList.length = s.size := Array.length_toList
  unfold txl
  rw [List.length_append]
  omega
theorem litem_len (K N : Nat → Int) (S : Nat → ByteArray) (i : Nat) (h : N i ≤ 9223372036854775807 ∧ (S i).size ≤ 9223372036854775807) : (litem K N S i).length ≤ 9 * ((S i).size + 1) := by
  unfold litem
  have h1 := sev_len (n := (N i).toNat) (by omega)
  have h2 := txl_len h.2
  split
  · omega
  · split
    · omega
    · simp
theorem laid_len (K N : Nat → Int) (S : Nat → ByteArray) {len : Nat} (h : ∀ i, i < len → N i ≤ 9223372036854775807 ∧ (S i).size ≤ 9223372036854775807) : ∀ k, k ≤ len → (laid K N S k).length ≤ 9 * itot S k := by
  intro k
  induction k with
  | zero => intro _; simp [laid]
  | succ n ih =>
    intro hk
    have h1 := ih (by omega)
    have h2 := litem_len K N S n (h n (by omega))
    rw [laid, itot, List.length_append]
    omega
theorem laid_pre (K N : Nat → Int) (S : Nat → ByteArray) (k : Nat) : ∀ m, ∃ r, laid K N S (k + m) = laid K N S k ++ r := by
  intro m
  induction m with
  | zero => exact ⟨[], by simp⟩
  | succ m ih =>
    obtain ⟨r, hr⟩ := ih
    exact ⟨r ++ litem K N S (k + m), by rw [← Nat.add_assoc, laid, hr, List.append_assoc]⟩
theorem laid_rest {K N : Nat → Int} {S : Nat → ByteArray} {k len : Nat} {r : List UInt8} (h : k < len) (e : laid K N S len = laid K N S k ++ r) : ∃ r', r = litem K N S k ++ r' ∧ laid K N S len = laid K N S (k + 1) ++ r' := by
  obtain ⟨r', hr⟩ := laid_pre K N S (k + 1) (len - (k + 1))
  rw [show k + 1 + (len - (k + 1)) = len by omega] at hr
  refine ⟨r', ?_, hr⟩
  rw [hr, laid, List.append_assoc] at e
  exact (List.append_cancel_left e).symm
theorem textOut_txl (s : ByteArray) (r : List UInt8) (hs : s.size ≤ 9223372036854775807) : textOut ⟨(txl s ++ r).toArray⟩ s.size = (s, ⟨r.toArray⟩, 0) := by
  have h1 := numOut_sev s.size (s.data.toList ++ r) s.size (by omega) (by omega)
  have h2 : s.data.toList.length = s.size := Array.length_toList
  have h3 : ¬ (((ByteArray.size ⟨(s.data.toList ++ r).toArray⟩ : Nat) : Int) < (s.size : Int)) := by
    have : ByteArray.size ⟨(s.data.toList ++ r).toArray⟩ = s.size + r.length := by
      show (s.data.toList ++ r).toArray.size = _
      rw [List.size_toArray, List.length_append, h2]
    omega
  unfold textOut txl
  rw [List.append_assoc, h1]
  simp only [ne_eq, not_true_eq_false, if_false, if_neg h3, Int.toNat_natCast, List.toList_toArray]
  rw [← h2, List.take_left, List.drop_left]

/-- A reader of what was laid. -/
structure Bk (W wr : World) (b1 : Nat) (L pre r : List UInt8) : Prop where
  rv : RdV wr b1 ⟨r.toArray⟩ 0
  eqn : L = pre ++ r
  bel : Below W.heap.size W wr
  n1 : W.heap.size ≤ b1
theorem Bk.step {W wr w' : World} {b1 : Nat} {L pre r pre' r' : List UInt8} (h : Bk W wr b1 L pre r) (hg : wr.grownBy w' (some b1)) (hr : RdV w' b1 ⟨r'.toArray⟩ 0) (he : L = pre' ++ r') : Bk W w' b1 L pre' r' :=
  ⟨hr, he, h.bel.grown hg h.bel.size (by rintro j hj; cases hj; exact h.n1), h.n1⟩

theorem back_num (b1 : Nat) (n : Nat) (r : List UInt8) (w : World) (h : RdV w b1 ⟨(sev n ++ r).toArray⟩ 0) (hn : n ≤ 9223372036854775807) :
    Calls Try.prog 25 #[.pointer (some ⟨b1, 0, none⟩), .int .i64 n] w fun e w' => e = .returned (.int .i64 n) ∧ RdV w' b1 ⟨r.toArray⟩ 0 ∧ w.grownBy w' (some b1) := by
  have h1 := num_r b1 _ n w h
  rw [numOut_sev n r n (by omega) (by omega)] at h1
  exact h1
theorem back_text (b1 : Nat) (s : ByteArray) (r : List UInt8) (w : World) (h : RdV w b1 ⟨(txl s ++ r).toArray⟩ 0) (hn : s.size ≤ 9223372036854775807) :
    Calls Try.prog 27 #[.pointer (some ⟨b1, 0, none⟩), .int .i64 s.size] w fun e w' => e = .returned (.string s) ∧ RdV w' b1 ⟨r.toArray⟩ 0 ∧ w.grownBy w' (some b1) := by
  have h1 := text_r b1 _ s.size w h
  rw [textOut_txl s r hn] at h1
  exact h1

set_option maxRecDepth 100000 in
set_option maxHeartbeats 4000000 in
theorem bitsBack_w (ao : Option Addr) (len cap : Nat) (K N : Nat → Int) (S : Nat → ByteArray) (w : World) (hb : itot S len ≤ 1048576) (hit : ItemsIn w ao len K N S) (hN : ∀ i, i < len → N i ≤ 9223372036854775807 ∧ (S i).size ≤ 9223372036854775807) :
    Calls Try.prog 7 #[.slice ao len cap] w fun e w' => e = .returned (.bool true) ∧ Below w.heap.size w w' := by
  have HIT := Lib.hid hit
  have hlen : len ≤ 1048576 := Nat.le_trans (itot_len S len) hb
  have HN := Lib.hid hN
  have HIB := Lib.hid hb
  have HLL := Lib.hid (laid_len K N S hN)
  clear hit hN hb
  go_enter Try.func7, Try.ntmps7
  go_wp2_with fail
  refine (new_c _).mono ?_
  rintro e w2 ⟨rfl, hw2, hb2, hz2⟩
  have HS : Hid (∃ B v, Wr1 w w2 w.heap.size B v []) := ⟨_, _, hw2, hb2, Nat.le_refl _⟩
  obtain ⟨bw, hbw⟩ : ∃ bw, bw = w.heap.size := ⟨_, rfl⟩
  rw [← hbw]
  have HS1 : Hid (∃ B v, Wr1 w w2 bw B v []) := by rw [hbw]; exact HS
  clear HS hbw hw2 hb2 hz2
  go_wp2_with fail
  go_loopw [4] (fun i wr => ∃ k : Nat, k ≤ len ∧ i = .int .i64 k ∧ Hid (∃ B v, Wr1 w wr bw B v (laid K N S k))) (fun i _ => len - (intOf i).toNat)
  case atStart => exact ⟨0, Nat.zero_le _, rfl, HS1.out⟩
  case round =>
    obtain ⟨k, hk, rfl, HR⟩ := hrel
    obtain ⟨B, v, hT⟩ := HR.out
    have HT := Lib.hid hT
    clear hT HR HS1
    by_cases hlt : k < len
    · obtain ⟨b, off, hao, q0, q1, q2⟩ := HIT.out k hlt
      have r0 := (HT.out.bel.cell (p := ⟨b, off + k * 3, none⟩) (World.block_lt_of_cell? w _ q0)).trans q0
      have r1 := (HT.out.bel.cell (p := ⟨b, off + k * 3 + 1, none⟩) (World.block_lt_of_cell? w _ q1)).trans q1
      have r2 := (HT.out.bel.cell (p := ⟨b, off + k * 3 + 2, none⟩) (World.block_lt_of_cell? w _ q2)).trans q2
      rw [hao]
      clear hao q0 q1 q2
      have HNK := Lib.hid (HN.out k hlt)
      have HLK := Lib.hid (HLL.out k hk)
      have HIK := Lib.hid (Nat.le_trans (itot_at S hlt) HIB.out)
      have HLI : Hid (laid K N S (k + 1) = laid K N S k ++ litem K N S k) := rfl
      unfold litem at HLI
      generalize K k = q at r0 HLI
      generalize N k = z at r1 HLI HNK
      generalize S k = t at r2 HLI HNK HIK
      by_cases t0 : (q.tmod 3 == 0) = true
      · rw [if_pos t0] at HLI
        go_wp2_with fail
        refine (num1_c bw B v _ z _ _ HT.out.wv rfl HNK.out.1 (by have := HLK.out; have := HIK.out; omega)).mono ?_
        rintro e w4 ⟨rfl, v', hs4⟩
        have H4 : Hid (Wr1 w w4 bw B v' (laid K N S (k + 1))) := by rw [HLI.out]; exact HT.out.step hs4
        clear hs4
        go_wp2_with fail
        go_roundw
        case rel => exact ⟨k + 1, by omega, by go_num, ⟨B, v', H4.out⟩⟩
        case measure => simp [intOf]; omega
      · rw [if_neg t0] at HLI
        by_cases t1 : (q.tmod 3 == 1) = true
        · rw [if_pos t1] at HLI
          go_wp2_with fail
          refine (text_c bw B v _ t _ HT.out.wv (by have := HIK.out; omega) (by have := HLK.out; have := HIK.out; omega)).mono ?_
          rintro e w4 ⟨rfl, v', hs4⟩
          have H4 : Hid (Wr1 w w4 bw B v' (laid K N S (k + 1))) := by rw [HLI.out]; exact HT.out.step hs4
          clear hs4
          go_wp2_with fail
          go_roundw
          case rel => exact ⟨k + 1, by omega, by go_num, ⟨B, v', H4.out⟩⟩
          case measure => simp [intOf]; omega
        · rw [if_neg t1, List.append_nil] at HLI
          have H4 : Hid (Wr1 w wr bw B v (laid K N S (k + 1))) := by rw [HLI.out]; exact HT.out
          go_wp2_with fail
          go_roundw
          case rel => exact ⟨k + 1, by omega, by go_num, ⟨B, v, H4.out⟩⟩
          case measure => simp [intOf]; omega
    · have hke : k = len := by omega
      subst hke
      go_wp2_with fail
      refine (bytes_c bw B v _ _ HT.out.wv).mono ?_
      rintro e w3 ⟨rfl, rfl⟩
      go_wp2_with fail
      refine (read_c _ _).mono ?_
      rintro e w4 ⟨rfl, hr4, hb4, _⟩
      have HB : Hid (Bk w w4 wr.heap.size (laid K N S k) [] (laid K N S k)) := ⟨hr4, rfl, HT.out.bel.trans (hb4.mono HT.out.bel.size), HT.out.bel.size⟩
      obtain ⟨b1, hb1⟩ : ∃ b1, b1 = wr.heap.size := ⟨_, rfl⟩
      rw [← hb1]
      have HB1 : Hid (Bk w w4 b1 (laid K N S k) [] (laid K N S k)) := by rw [hb1]; exact HB
      clear HB hb1 hr4 hb4 HT hlt
      have HLA : Hid (∃ L, L = laid K N S k) := ⟨_, rfl⟩
      go_wp2_with fail
      go_loopw [6] (fun i wr => ∃ j : Nat, j ≤ k ∧ i = .int .i64 j ∧ Hid (∃ r, Bk w wr b1 (laid K N S k) (laid K N S j) r)) (fun i _ => k - (intOf i).toNat)
      case atStart => exact ⟨0, Nat.zero_le _, rfl, ⟨_, HB1.out⟩⟩
      case round =>
        obtain ⟨j, hj, rfl, HR⟩ := hrel
        obtain ⟨r, hT⟩ := HR.out
        have HT := Lib.hid hT
        clear hT HR HB1
        by_cases hlt : j < k
        · obtain ⟨r', hr', he'⟩ := laid_rest hlt HT.out.eqn
          obtain ⟨b, off, hao, q0, q1, q2⟩ := HIT.out j hlt
          have r0 := (HT.out.bel.cell (p := ⟨b, off + j * 3, none⟩) (World.block_lt_of_cell? w _ q0)).trans q0
          have r1 := (HT.out.bel.cell (p := ⟨b, off + j * 3 + 1, none⟩) (World.block_lt_of_cell? w _ q1)).trans q1
          have r2 := (HT.out.bel.cell (p := ⟨b, off + j * 3 + 2, none⟩) (World.block_lt_of_cell? w _ q2)).trans q2
          have HBN := Lib.hid (show some b ≠ some b1 by have := HT.out.n1; have := World.block_lt_of_cell? w _ q2; simp at this ⊢; omega)
          rw [hao]
          clear hao q0 q1 q2
          have HNK := Lib.hid (HN.out j hlt)
          have HE := Lib.hid he'
          have HRR := Lib.hid hr'
          clear he' hr'
          unfold litem at HRR
          generalize K j = q at r0 HRR
          generalize N j = z at r1 HRR HNK
          generalize S j = t at r2 HRR HNK
          by_cases t0 : (q.tmod 3 == 0) = true
          · rw [if_pos t0] at HRR
            obtain ⟨m, hm⟩ : ∃ m : Nat, m = z.toNat := ⟨_, rfl⟩
            rw [← hm] at HRR
            have HRD := Lib.hid HT.out.rv
            rw [HRR.out] at HRD
            by_cases hz : z < 0
            · have hm0 : m = 0 := by omega
              have C1 := Lib.hid (fun w h => back_num b1 m r' w h (by omega))
              rw [hm0] at C1
              rw [hm0] at HRD
              clear hm0 hm
              go_wp2_with fail
              refine (C1.out _ HRD.out).mono ?_
              rintro e w5 ⟨rfl, hr5, hg5⟩
              have H5 := Lib.hid (HT.out.step hg5 hr5 HE.out)
              clear hr5 hg5
              go_wp2_with fail
              go_roundw
              case rel => exact ⟨j + 1, by omega, by go_num, ⟨_, H5.out⟩⟩
              case measure => simp [intOf]; omega
            · have hzm : z = (m : Int) := by omega
              have hm63 : m ≤ 9223372036854775807 := by have := HNK.out.1; omega
              subst hzm
              have C1 := Lib.hid (fun w h => back_num b1 m r' w h hm63)
              clear hm
              go_wp2_with fail
              all_goals (
                refine (C1.out _ HRD.out).mono ?_
                rintro e w5 ⟨rfl, hr5, hg5⟩
                have H5 := Lib.hid (HT.out.step hg5 hr5 HE.out)
                clear hr5 hg5
                go_wp2_with fail
                go_roundw
                case rel => exact ⟨j + 1, by omega, by go_num, ⟨_, H5.out⟩⟩
                case measure => simp [intOf]; omega)
          · rw [if_neg t0] at HRR
            by_cases t1 : (q.tmod 3 == 1) = true
            · rw [if_pos t1] at HRR
              have HRD := Lib.hid HT.out.rv
              rw [HRR.out] at HRD
              have C1 := Lib.hid (fun w h => back_text b1 t r' w h HNK.out.2)
              go_wp2_with fail
              all_goals (
                have hz0 := bel_at (by exact (Below.refl _ wr).drew) r2
                have HRD1 := Lib.hid (HRD.out.below (by exact (Below.refl _ wr).drew))
                have HT1 := Lib.hid (show Bk w wr.drew b1 _ _ _ from ⟨HT.out.rv.below (by exact (Below.refl _ wr).drew), HT.out.eqn, HT.out.bel.trans ((Below.refl _ wr).drew.mono HT.out.bel.size), HT.out.n1⟩)
                go_region_held3 (fun w' => w'.cell? ⟨b, off + j * 3 + 2, none⟩ = some (.string t))
                  ((first | (go_keep; done) | exact hk1))
                  (first | (go_at_call 27; refine (C1.out _ HRD1.out).mono ?_; rintro e w5 ⟨rfl, hr5, hg5⟩; have hk1 := grown_at hg5 hz0 HBN.out))
                have H5 := Lib.hid (HT1.out.step hg5 hr5 HE.out)
                clear hr5 hg5 hk1
                go_wp2_with fail
                go_roundw
                case rel => exact ⟨j + 1, by omega, by go_num, ⟨_, H5.out⟩⟩
                case measure => simp [intOf]; omega)
            · rw [if_neg t1, List.nil_append] at HRR
              have H5 : Hid (Bk w wr b1 (laid K N S k) (laid K N S (j + 1)) r') := ⟨by rw [← HRR.out]; exact HT.out.rv, HE.out, HT.out.bel, HT.out.n1⟩
              go_wp2_with fail
              all_goals (
                go_roundw
                case rel => exact ⟨j + 1, by omega, by go_num, ⟨_, H5.out⟩⟩
                case measure => simp [intOf]; omega)
        · have hje : j = k := by omega
          subst hje
          have hr0 : r = [] := by
            have := HT.out.eqn
            exact List.append_right_eq_self.1 this.symm
          go_wp2_with fail
          refine (awake_c _).mono ?_
          rintro e w5 ⟨rfl, hb5⟩
          have H5 := Lib.hid (HT.out.rv.below hb5)
          have HB5 := Lib.hid (HT.out.bel.trans (hb5.mono HT.out.bel.size))
          rw [hr0] at H5
          clear hb5
          have HE := Lib.hid (end_r b1 _ 0 w5 H5.out)
          rw [show endV (ByteArray.size ⟨([] : List UInt8).toArray⟩) 0 = 0 from rfl] at HE
          go_wp2_with fail
          refine HE.out.mono ?_
          rintro e w6 ⟨rfl, rfl⟩
          go_wp2_with fail
          go_ret
          exact ⟨rfl, HB5.out⟩
end Go.Proofs.Ytbpkeeadfbobdaa
