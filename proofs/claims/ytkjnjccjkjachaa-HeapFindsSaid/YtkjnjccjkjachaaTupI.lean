/- A page's slots: the walk of TupleSlots. -/
import Derived.Test.YtkjnjccjkjachaaTupG
namespace Go.Proofs.Ytkjnjccjkjachaa
open Go.RowKit
set_option linter.unusedSimpArgs false
set_option maxRecDepth 100000
attribute [local irreducible] wpQuiet

/-- A list of texts lies in memory. -/
def StrsIn (w : World) (ao : Option Addr) (len : Nat) (S : Nat → ByteArray) : Prop := ∀ i, i < len → ∃ b off, ao = some ⟨b, off, none⟩ ∧ w.cell? ⟨b, off + i, none⟩ = some (.string (S i)) ∧ (S i).size ≤ 9223372036854775807
theorem StrsIn.below {w w' : World} {ao : Option Addr} {len : Nat} {S : Nat → ByteArray} (h : StrsIn w ao len S) {B : Nat} (hb : Below B w w') (hB : B = w.heap.size) : StrsIn w' ao len S := fun i hi => by
  subst hB
  obtain ⟨b, off, e, hc, hs⟩ := h i hi
  exact ⟨b, off, e, bel_at hb hc, hs⟩
/-- The first free slot, or how many there are. -/
def isFst (S : Nat → ByteArray) (len n : Nat) : Prop := n ≤ len ∧ (∀ j, j < n → (S j).size ≠ 0) ∧ (n < len → (S n).size = 0)
theorem fst_ex (S : Nat → ByteArray) : ∀ len, ∃ n, isFst S len n := by
  intro len
  induction len with
  | zero => exact ⟨0, Nat.le_refl _, fun j hj => by omega, fun h => by omega⟩
  | succ m ih =>
    obtain ⟨n, h1, h2, h3⟩ := ih
    by_cases hn : n < m
    · exact ⟨n, by omega, h2, fun _ => h3 hn⟩
    · have e : n = m := by omega
      subst e
      by_cases h0 : (S n).size = 0
      · exact ⟨n, by omega, h2, fun _ => h0⟩
      · exact ⟨n + 1, by omega, fun j hj => by
          by_cases e : j = n
          · subst e; exact h0
          · exact h2 j (by omega), fun h => by omega⟩
theorem itAt {w : World} {b off len : Nat} {S : Nat → ByteArray} (h : StrsIn w (some ⟨b, off, none⟩) len S) {i : Nat} (hi : i < len) : w.cell? ⟨b, off + i, none⟩ = some (.string (S i)) := by
  obtain ⟨b', off', e, hc, _⟩ := h i hi
  injection e with e; injection e with e1 e2
  subst e1; subst e2
  exact hc
theorem list_zero {s : ByteArray} (h : s.size = 0) : s.toList = [] := by
  have := empty_iff s
  rw [decide_eq_true h] at this
  exact List.isEmpty_iff.1 this
theorem list_ne {s : ByteArray} (h : s.size ≠ 0) : s.toList ≠ [] := by
  have := empty_iff s
  rw [decide_eq_false h] at this
  intro e
  rw [e] at this
  cases this

set_option maxRecDepth 100000 in
set_option maxHeartbeats 1000000 in
theorem index_c (ao : Option Addr) (len cap n : Nat) (S : Nat → ByteArray) (v : ByteArray) (w : World) (hv : v.size = 0) (hlen : len ≤ 9223372036854775807) (h : StrsIn w ao len S) (hn : isFst S len n) (r : Int) (hr : r = if n < len then (n : Int) else -1) :
    Calls Try.prog 37 #[.slice ao len cap, .string v] w fun e w' => e = .returned (.int .i64 r) ∧ w = w' := by
  have HRR := Lib.hid hr
  clear hr
  have H := Lib.hid h
  have HN := Lib.hid hn
  have hvl := list_zero hv
  clear h hn hv
  go_enter Try.func37, Try.ntmps37
  go_wp2_with fail
  go_loop [8] (fun i => ∃ k : Nat, k ≤ len ∧ i = .int .i64 k ∧ Hid (k ≤ n)) (fun i => len - (intOf i).toNat)
  case atStart => exact ⟨0, Nat.zero_le _, rfl, Nat.zero_le n⟩
  case round =>
    obtain ⟨k, hk, rfl, HK⟩ := hrel
    by_cases hlt : k < len
    · obtain ⟨b, off, rfl, hc, _⟩ := H.out k hlt
      by_cases hz : (S k).size = 0
      · have hb : (v.toList == (S k).toList) = true := by rw [hvl, list_zero hz]; rfl
        have hkn : k = n := by
          have h1 := HK.out
          have h2 := HN.out.2.1 k
          rcases Nat.lt_or_ge k n with h3 | h3
          · exact absurd hz (h2 h3)
          · omega
        have HR : Hid (r = (k : Int)) := by unfold Hid; rw [HRR.out, ← hkn, if_pos hlt]
        clear hkn hvl
        generalize S k = s at *
        clear hz
        go_wp2_with fail
        go_ret
        exact ⟨retI HR.out.symm, rfl⟩
      · have hb : (v.toList == (S k).toList) = false := by rw [hvl, beq_eq_false_iff_ne]; exact fun e => list_ne hz e.symm
        have HK2 : Hid (k + 1 ≤ n) := by
          have h1 := HK.out
          have h3 := HN.out.2.2
          have h4 := HN.out.1
          unfold Hid
          rcases Nat.lt_or_ge k n with h5 | h5
          · omega
          · have e : n = k := by omega
            subst e
            exact absurd (h3 hlt) hz
        clear hvl
        generalize S k = s at *
        clear hz
        go_wp2_with fail
        go_round
        case rel => exact ⟨k + 1, by omega, by go_num, HK2⟩
        case measure => simp [intOf]; omega
    · have HR : Hid (r = -1) := by
        have h1 := HK.out
        have h4 := HN.out.1
        unfold Hid
        rw [HRR.out, if_neg (by omega)]
      go_wp2_with fail
      go_ret
      exact ⟨retI HR.out.symm, rfl⟩

/-- A page, boxed. -/
structure PB (W wx : World) (bt : Nat) (a0 a1 a2 a3 : Int) (h : ByteArray) (ao : Option Addr) (len cap : Nat) (S : Nat → ByteArray) : Prop where
  tb : wx.heap[bt]? = some (.cells #[.int .i64 a0, .int .i64 a1, .int .i64 a2, .int .i64 a3, .string h, .slice ao len cap] 24 (0, 0))
  it : StrsIn wx ao len S
  bel : Below W.heap.size W wx
theorem PB.cell {W wx : World} {bt : Nat} {a0 a1 a2 a3 : Int} {h : ByteArray} {ao : Option Addr} {len cap : Nat} {S : Nat → ByteArray} (H : PB W wx bt a0 a1 a2 a3 h ao len cap S) :
    wx.cell? ⟨bt, 0, none⟩ = some (.int .i64 a0) ∧ wx.cell? ⟨bt, 1, none⟩ = some (.int .i64 a1) ∧ wx.cell? ⟨bt, 2, none⟩ = some (.int .i64 a2) ∧ wx.cell? ⟨bt, 3, none⟩ = some (.int .i64 a3) ∧ wx.cell? ⟨bt, 4, none⟩ = some (.string h) ∧ wx.cell? ⟨bt, 5, none⟩ = some (.slice ao len cap) := by
  have h := H.tb
  refine ⟨?_, ?_, ?_, ?_, ?_, ?_⟩ <;> (simp only [World.cell?, h]; rfl)
theorem PB.below {W wx w' : World} {bt : Nat} {a0 a1 a2 a3 : Int} {h : ByteArray} {ao : Option Addr} {len cap : Nat} {S : Nat → ByteArray} (H : PB W wx bt a0 a1 a2 a3 h ao len cap S) (hb : Below wx.heap.size wx w') : PB W w' bt a0 a1 a2 a3 h ao len cap S :=
  ⟨(hb.block bt (World.block_lt_of_cell? wx _ H.cell.1)).trans H.tb, H.it.below hb rfl, H.bel.trans (hb.mono H.bel.size)⟩
theorem PB.new (w : World) (a0 a1 a2 a3 : Int) (h : ByteArray) (ao : Option Addr) (len cap : Nat) (S : Nat → ByteArray) (hs : StrsIn w ao len S) :
    PB w (w.alloc (.cells #[.int .i64 a0, .int .i64 a1, .int .i64 a2, .int .i64 a3, .string h, .slice ao len cap] 24)) w.heap.size a0 a1 a2 a3 h ao len cap S :=
  ⟨heap_alloc_new w _, hs.below ((Below.refl _ w).alloc (Nat.le_refl _) _) rfl, (Below.refl _ w).alloc (Nat.le_refl _) _⟩

set_option maxRecDepth 100000 in
set_option maxHeartbeats 1000000 in
theorem slot_c (a0 a1 a2 a3 : Int) (h : ByteArray) (ao : Option Addr) (len cap n : Nat) (S : Nat → ByteArray) (w : World) (hlen : len ≤ 9223372036854775807) (hs : StrsIn w ao len S) (hn : isFst S len n) :
    Calls Try.prog 15 #[.agg #[.int .i64 a0, .int .i64 a1, .int .i64 a2, .int .i64 a3, .string h, .slice ao len cap]] w fun e w' => e = .returned (.int .i64 n) ∧ Below w.heap.size w w' := by
  obtain ⟨wb, hwb⟩ : ∃ wb, wb = w.alloc (.cells #[.int .i64 a0, .int .i64 a1, .int .i64 a2, .int .i64 a3, .string h, .slice ao len cap] 24) := ⟨_, rfl⟩
  obtain ⟨bt, hbt⟩ : ∃ bt, bt = w.heap.size := ⟨_, rfl⟩
  have H0 : Hid (PB w wb bt a0 a1 a2 a3 h ao len cap S) := by rw [hwb, hbt]; exact PB.new w a0 a1 a2 a3 h ao len cap S hs
  have HWB := Lib.hid hwb
  have HBT := Lib.hid hbt
  obtain ⟨r, hr⟩ : ∃ r : Int, r = if n < len then (n : Int) else -1 := ⟨_, rfl⟩
  have CI := Lib.hid (fun w' hh => index_c ao len cap n S ⟨#[]⟩ w' rfl hlen hh hn r hr)
  have HRR := Lib.hid hr
  clear hr
  have hnl := hn.1
  clear hwb hbt hs hn
  go_enter Try.func15, Try.ntmps15
  go_upto_region 1 with (fail)
  rw [← HWB.out, ← HBT.out]
  clear HWB HBT
  have H1 : Hid (PB w wb.drew bt a0 a1 a2 a3 h ao len cap S) := H0.out.below (by exact (Below.refl _ _).drew)
  obtain ⟨c0, c1, c2, c3, c4, c5⟩ := H0.out.cell
  refine wp_region_q (fun wx => PB w wx bt a0 a1 a2 a3 h ao len cap S) (by kernel_rfl) (by kernel_rfl) (by exact H1.out) ?_
  iterate 2 (refine q_take (v := ?_) (by kernel_rfl) (by intro w' hC; (try dsimp only at hC); have e5 := hC.cell.2.2.2.2.2; go_simp; try (with_reducible rfl)) ?_; try simp only [Act.put, List.setIfInBounds_toArray, List.set_cons_zero, List.set_cons_succ])
  refine q_call (v := .string ⟨#[]⟩) (f := ?_) (args := ?_) (by kernel_rfl) (by intro w' hC; (try dsimp only at hC); go_simp; first | (constructor <;> with_reducible rfl) | (with_reducible rfl)) (by intro w' hC; (try dsimp only at hC); exact (free_c w').mono (fun e wx ⟨h, hh⟩ => ⟨h, by rw [← hh]; exact hC⟩)) ?_
  try simp only [Act.put, List.setIfInBounds_toArray, List.set_cons_zero, List.set_cons_succ]
  refine q_call (v := .int .i64 r) (f := ?_) (args := ?_) (by kernel_rfl) (by intro w' hC; (try dsimp only at hC); go_simp; first | (constructor <;> with_reducible rfl) | (with_reducible rfl)) (by intro w' hC; (try dsimp only at hC); exact (CI.out w' hC.it).mono (fun e wx ⟨h, hh⟩ => ⟨h, by rw [← hh]; exact hC⟩)) ?_
  try simp only [Act.put, List.setIfInBounds_toArray, List.set_cons_zero, List.set_cons_succ]
  iterate 1 (refine q_take (v := ?_) (by kernel_rfl) (by intro w' hC; (try dsimp only at hC); have e5 := hC.cell.2.2.2.2.2; go_simp; try (with_reducible rfl)) ?_; try simp only [Act.put, List.setIfInBounds_toArray, List.set_cons_zero, List.set_cons_succ])
  refine q_done ?_
  intro w2 hC2
  have H2 := Lib.hid hC2
  have d5 := hC2.cell.2.2.2.2.2
  clear hC2 c0 c1 c2 c3 c4 c5 H0 H1
  by_cases hlt : n < len
  · have hr : r = (n : Int) := by rw [HRR.out, if_pos hlt]
    rw [hr]
    clear HRR CI hr
    go_wp2_with fail
    go_ret
    exact ⟨rfl, H2.out.bel⟩
  · have hr : r = -1 := by rw [HRR.out, if_neg hlt]
    rw [hr]
    clear HRR CI hr
    have e : n = len := by omega
    subst e
    go_wp2_with fail
    go_ret
    exact ⟨rfl, H2.out.bel⟩

theorem stV_ne {s : ByteArray} (h : s.size ≠ 0) : stV s ≠ 1 := by
  unfold stV
  rw [if_neg h]
  split
  · decide
  · split <;> decide

end Go.Proofs.Ytkjnjccjkjachaa
