/- Checks: the begin of a restart; a number taken of a text. -/
import Derived.Test.YtbhiijjnobcmoaaCkC
namespace Go.Proofs.Ytbhiijjnobcmoaa
open Go.RowKit
set_option linter.unusedSimpArgs false
set_option maxRecDepth 100000

theorem sub_drop (s : ByteArray) (k : Nat) : s.extract k s.size = ⟨(s.data.toList.drop k).toArray⟩ := by
  apply ByteArray.ext
  apply Array.ext'
  rw [ByteArray.data_extract, Array.toList_extract, List.extract_eq_take_drop]
  exact List.take_of_length_le (by rw [List.length_drop]; exact Nat.le_refl _)
theorem sub_take (s : ByteArray) (k : Nat) : s.extract 0 k = ⟨(s.data.toList.take k).toArray⟩ := by
  apply ByteArray.ext
  apply Array.ext'
  rw [ByteArray.data_extract, Array.toList_extract, List.extract_eq_take_drop]
  rfl

set_option maxHeartbeats 2000000 in
theorem take_c (l : List UInt8) (k : Nat) (bt : Nat) (w : World) (hk : k ≤ l.length) (hl : l.length ≤ 64) (hc : w.heap[bt]? = some (.cells #[.string ⟨l.toArray⟩] 9 (0, 0))) :
    Calls Try.prog 28 #[.int .i64 k, .pointer (some ⟨bt, 0, none⟩)] w fun e w' => e = .returned (.int .i64 (ofV (l.take k) : Nat)) ∧ w' = w.setCell ⟨bt, 0, none⟩ (.string ⟨(l.drop k).toArray⟩) := by
  obtain ⟨t, ht⟩ : ∃ t : ByteArray, t = ⟨l.toArray⟩ := ⟨_, rfl⟩
  rw [← ht] at hc
  have hsz : t.size = l.length := by rw [ht, bs_size]
  have HT : Hid (t.extract 0 k = ⟨(l.take k).toArray⟩ ∧ t.extract k l.length = ⟨(l.drop k).toArray⟩ ∧ t.data.toList = l) := by
    refine ⟨?_, ?_, ?_⟩
    · rw [sub_take, ht]
    · rw [← hsz, sub_drop, ht]
    · rw [ht]
  have HZ : Hid ((t.extract 0 k).size ≤ 9223372036854775807) := by unfold Hid; simp; omega
  have c0 : w.cell? ⟨bt, 0, none⟩ = some (.string t) := by simp only [World.cell?, hc]; rfl
  have f0 : w.frozen? ⟨bt, 0, none⟩ = false := frozen_of_row w bt 0 _ _ hc
  have hk64 : (k : Int) ≤ (t.size : Int) := by omega
  have hk0 : k ≤ t.size := by omega
  clear hc ht
  go_enter Try.func28, Try.ntmps28
  go_wp2_with fail
  refine (of_c _ _ HZ.out).mono ?_
  rintro e w1 ⟨rfl, rfl⟩
  go_wp2_with fail
  go_ret
  exact ⟨retI (by rw [HT.out.2.2]), by rw [HT.out.2.1]⟩

/-- What is owed lies in memory. -/
def OwedIn (w : World) (ao : Option Addr) (len : Nat) (P L : Nat → Int) : Prop :=
  ∀ i, i < len → ∃ b off, ao = some ⟨b, off, none⟩ ∧ w.cell? ⟨b, off + i * 2, none⟩ = some (.int .i64 (P i)) ∧ w.cell? ⟨b, off + (i * 2 + 1), none⟩ = some (.int .i64 (L i))
theorem OwedIn.below {w w' : World} {ao : Option Addr} {len : Nat} {P L : Nat → Int} (h : OwedIn w ao len P L) (hb : Below w.heap.size w w') : OwedIn w' ao len P L := fun i hi => by
  obtain ⟨b, off, e, h0, h1⟩ := h i hi
  exact ⟨b, off, e, bel_at hb h0, bel_at hb h1⟩
/-- Where a restart has to begin. -/
def redoN (at0 : Int) (L : Nat → Int) : Nat → Int
  | 0 => at0
  | k + 1 => if 0 < L k then min (redoN at0 L k) (L k) else redoN at0 L k

set_option maxHeartbeats 2000000 in
theorem redo_c (at0 : Int) (ao : Option Addr) (len cap : Nat) (P L : Nat → Int) (w : World) (hlen : len ≤ 9223372036854775807) (ho : OwedIn w ao len P L) :
    Calls Try.prog 13 #[.int .i64 at0, .slice ao len cap] w fun e w' => e = .returned (.int .i64 (redoN at0 L len)) ∧ Below w.heap.size w w' := by
  have HO := Lib.hid ho
  clear ho
  go_enter Try.func13, Try.ntmps13
  go_wp2_with fail
  go_loopw [0, 9] (fun x i wr => ∃ k : Nat, k ≤ len ∧ x = .int .i64 (redoN at0 L k) ∧ i = .int .i64 k ∧ Hid (Below w.heap.size w wr)) (fun _ i _ => len - (intOf i).toNat)
  case atStart => exact ⟨0, by omega, rfl, rfl, Below.refl _ w⟩
  case round =>
    obtain ⟨k, hk, rfl, rfl, HB⟩ := hrel
    have HS : Hid (redoN at0 L (k + 1) = if 0 < L k then min (redoN at0 L k) (L k) else redoN at0 L k) := rfl
    have HSZ := Lib.hid (HB.out.size)
    by_cases hlt : k < len
    · obtain ⟨b, off, rfl, h0, h1⟩ := HO.out.below HB.out k hlt
      rw [← Nat.add_assoc] at h1
      generalize redoN at0 L k = r at *
      obtain ⟨x, hx⟩ : ∃ x, x = L k := ⟨_, rfl⟩
      rw [← hx] at h1 HS
      have HX := Lib.hid hx
      clear hx
      have hnew : (wr.alloc (.cells #[.int .i64 0, .int .i64 0] 59)).heap[wr.heap.size]? = some (.cells #[.int .i64 0, .int .i64 0] 59 (0, 0)) := heap_alloc_new wr _
      go_wp2_with (refine wpList_st_row rfl 59 _ _ rfl wr.heap.size rfl _ rfl hnew (by kernel_rfl) rfl (by simp [Value.oneCell']) (fun w2 hp2 hg2 => ?_); have P2 := Lib.hid hp2; have B2 := Lib.hid (below_own ((HB.out.alloc HSZ.out _)) HSZ.out hg2); have c1 : w2.cell? ⟨wr.heap.size, 1, none⟩ = some (.int .i64 x) := (by simp only [World.cell?, P2.out]; rfl); clear hp2 hg2)
      · go_roundw
        case rel => exact ⟨k + 1, by omega, by rw [HS.out, if_pos (by assumption)], by go_num, B2.out⟩
        case measure => simp [intOf]; omega
      · go_roundw
        case rel => exact ⟨k + 1, by omega, by rw [HS.out, if_neg (by omega)], by go_num, B2.out⟩
        case measure => simp [intOf]; omega
    · have e : k = len := by omega
      subst e
      go_wp2_with fail
      go_ret
      exact ⟨rfl, HB.out⟩
end Go.Proofs.Ytbhiijjnobcmoaa
