/- Lists of texts of the call's own: copied, appended to at the end, one text replaced. -/
import Derived.Test.YtkjnjccjkjachaaHpA
import Derived.Test.YtkjnjccjkjachaaShelfH
namespace Go.Proofs.Ytkjnjccjkjachaa
open Go.RowKit
set_option linter.unusedSimpArgs false
set_option maxRecDepth 100000

theorem info_str : (Try.prog.info? 9).map (fun i => (i.zero, i.size, i.bytes)) = some (some (.string ⟨#[]⟩), 1, 16) := by kernel_rfl
/-- The cells of texts. -/
def strs (S : Nat → ByteArray) (n : Nat) : List Value := (List.range n).map fun i => .string (S i)
theorem strs_len (S : Nat → ByteArray) (n : Nat) : (strs S n).length = n := by simp [strs]
theorem strs_at (S : Nat → ByteArray) {n j : Nat} (h : j < n) : (strs S n)[j]? = some (.string (S j)) := by simp [strs, h]
theorem strs_one (S : Nat → ByteArray) (n : Nat) : ∀ u ∈ strs S n, u.oneCell' = true := by
  intro u hu
  simp [strs] at hu
  obtain ⟨_, _, rfl⟩ := hu
  rfl
theorem strs_zero (S : Nat → ByteArray) : strs S 0 = [] := rfl
theorem strs_succ (S : Nat → ByteArray) (n : Nat) : strs S (n + 1) = strs S n ++ [.string (S n)] := by simp [strs, List.range_succ]
/-- One text is another one. -/
def updS (S : Nat → ByteArray) (n : Nat) (x : ByteArray) : Nat → ByteArray := fun i => if i = n then x else S i
theorem updS_same (S : Nat → ByteArray) (n : Nat) (x : ByteArray) : updS S n x n = x := by simp [updS]
theorem updS_other (S : Nat → ByteArray) {n i : Nat} (x : ByteArray) (h : i ≠ n) : updS S n x i = S i := by simp [updS, h]
theorem strs_upd_end (S : Nat → ByteArray) (n : Nat) (x : ByteArray) : strs S n ++ [.string x] = strs (updS S n x) (n + 1) := by
  rw [strs_succ, updS_same]
  congr 1
  unfold strs
  refine List.map_congr_left fun i hi => ?_
  rw [updS_other S x (by have := List.mem_range.1 hi; omega)]
theorem strs_take (S : Nat → ByteArray) (n : Nat) : (((List.range n).map S).take n).map Value.string = strs S n := by
  rw [List.take_of_length_le (by simp)]
  simp [strs]
/-- A list of the call's own lies in memory. -/
theorem own_strs {w : World} {B : Nat} {v : Value} {n : Nat} {S : Nat → ByteArray} (h : w.ownsRow B 9 1 v n (strs S n)) (hM : ∀ i, i < n → (S i).size ≤ 9223372036854775807) :
    ∃ ao cap, v = .slice ao n cap ∧ StrsIn w ao n S := by
  obtain ⟨hl, ⟨rfl, h0⟩ | ⟨g, cap, cur, rfl, hg1, hg2, hg3, hg4, hg5, hg6⟩⟩ := h
  · subst h0
    exact ⟨none, 0, rfl, fun i hi => by omega⟩
  · refine ⟨_, cap, rfl, fun i hi => ⟨g, 0, rfl, ?_, hM i hi⟩⟩
    have : cur.toList[i]? = some (.string (S i)) := by
      have h1 := strs_at S hi
      rw [← hg6, List.getElem?_take, if_pos (by omega)] at h1
      exact h1
    simp only [World.cell?, hg2, Nat.zero_add]
    rw [← Array.getElem?_toList, this]
    rfl
/-- One text of a list of the call's own is replaced. -/
theorem own_set {w : World} {B g n cap i : Nat} {S : Nat → ByteArray} (h : w.ownsRow B 9 1 (.slice (some ⟨g, 0, none⟩) n cap) n (strs S n)) (hi : i < n) (x : ByteArray) :
    (w.setCell ⟨g, i, none⟩ (.string x)).ownsRow B 9 1 (.slice (some ⟨g, 0, none⟩) n cap) n (strs (updS S i x) n) := by
  obtain ⟨hl, ⟨h1, _⟩ | ⟨g', cap', cur, h1, hg1, hg2, hg3, hg4, hg5, hg6⟩⟩ := h
  · simp at h1
  · simp only [Value.slice.injEq, Option.some.injEq, Addr.mk.injEq, and_true, true_and] at h1
    obtain ⟨rfl, rfl⟩ := h1
    refine ⟨by rw [strs_len, Nat.mul_one], .inr ⟨g, cap, cur.setIfInBounds i (.string x), rfl, hg1, ?_, hg3, hg4, by simpa using hg5, ?_⟩⟩
    · exact heap_setCell_same w g i _ _ _ hg2
    · refine List.ext_getElem? fun j => ?_
      rw [Nat.mul_one] at hg6 ⊢
      have hgj : (cur.toList.take n)[j]? = (strs S n)[j]? := by rw [hg6]
      rw [List.getElem?_take] at hgj ⊢
      by_cases hj : j < n
      · rw [if_pos hj] at hgj ⊢
        rw [strs_at _ hj]
        rw [strs_at _ hj] at hgj
        rw [Array.getElem?_toList] at hgj ⊢
        by_cases hji : j = i
        · subst hji
          rw [updS_same]
          have hlt : j < cur.size := (Array.getElem?_eq_some_iff.1 hgj).1
          simp [Array.getElem?_setIfInBounds, hlt]
        · rw [updS_other _ _ hji, Array.getElem?_setIfInBounds_ne (fun e => hji e.symm)]
          exact hgj
      · rw [if_neg hj, List.getElem?_eq_none]
        rw [strs_len]; omega

/-- A copy of a list. -/
theorem clone_c (ao : Option Addr) (len cap : Nat) (S : Nat → ByteArray) (w : World) (hlen : len ≤ 8796093022207) (hs : StrsIn w ao len S) :
    Calls Try.prog 53 #[.slice ao len cap] w fun e w' => ∃ v', e = .returned v' ∧ w'.ownsRow w.heap.size 9 1 v' len (strs S len) ∧ Below w.heap.size w w' := by
  cases ao with
  | none =>
    have h0 : len = 0 := by
      rcases Nat.eq_zero_or_pos len with h | h
      · exact h
      · obtain ⟨_, _, e, _⟩ := hs 0 h
        cases e
    subst h0
    refine (Try.slices_Clone_string_nil 0 cap w).mono ?_
    rintro e w' ⟨rfl, rfl⟩
    exact ⟨_, rfl, World.ownsRow_nil _ _ _ _, Below.refl _ _⟩
  | some a =>
    rcases Nat.eq_zero_or_pos len with h | h
    · subst h
      refine (Try.slices_Clone_string_zero a cap w).mono ?_
      rintro e w' ⟨v', rfl, h1, _, h2⟩
      exact ⟨_, rfl, h1, h2⟩
    · obtain ⟨b, off, e, _⟩ := hs 0 h
      cases e
      refine (Try.slices_Clone_string b off len cap ((List.range len).map S) w (by simp) (by omega) (fun j hj => ?_)).mono ?_
      · have hj' : j < len := by simpa using hj
        rw [itAt hs hj']
        simp [List.getD, hj']
      rintro e w' ⟨v', rfl, h1, _, h2⟩
      rw [strs_take] at h1
      exact ⟨_, rfl, h1, h2⟩

set_option maxHeartbeats 2000000 in
/-- A text is put behind all. -/
theorem insert_c (v : Value) (n vb B : Nat) (S : Nat → ByteArray) (x : ByteArray) (w : World) (hn : n ≤ 8796093022000) (hv : w.ownsRow B 9 1 v n (strs S n)) (hx : w.cell? ⟨vb, 0, none⟩ = some (.string x)) (hB : B ≤ w.heap.size) :
    Calls Try.prog 52 #[v, .int .i64 n, .slice (some ⟨vb, 0, none⟩) 1 1] w fun e w' => ∃ v', e = .returned v' ∧ w'.ownsRow B 9 1 v' (n + 1) (strs (updS S n x) (n + 1)) ∧ Below B w w' := by
  obtain ⟨i0, hi, hz0, hz1, hz2⟩ := info_parts info_str
  have hsh : ∃ ao cap, v = .slice ao n cap ∧ (ao = none → n = 0 ∧ cap = 0) ∧ n ≤ cap ∧ cap ≤ 9223372036854775807 ∧ (∀ a, ao = some a → ∃ g, a = ⟨g, 0, none⟩) := by
    obtain ⟨_, ⟨rfl, h0⟩ | ⟨g, cap, cur, rfl, _, _, h3, h4, _⟩⟩ := hv
    · exact ⟨none, 0, by rw [h0], fun _ => ⟨h0, rfl⟩, by omega, by omega, fun a h => by cases h⟩
    · exact ⟨_, cap, rfl, fun h => (by cases h), h3, by unfold maxLen at h4; omega, fun a h => by cases h; exact ⟨g, rfl⟩⟩
  obtain ⟨ao, cap, rfl, hnil, hnc, hcap, hshape⟩ := hsh
  have HV := Lib.hid hv
  have HX := Lib.hid hx
  clear hv hx
  have hnews : ∀ (j : Nat) u, [Value.string x][j]? = some u → w.cell? ((⟨vb, 0, none⟩ : Addr).add j) = some u := fun j u hj => by
    match j, hj with
    | 0, hj => simp at hj; subst hj; exact HX.out
  have hone : ∀ u ∈ [Value.string x], u.oneCell' = true := fun u hu => by simp at hu; subst hu; rfl
  cases ao with
  | none =>
    obtain ⟨rfl, rfl⟩ := hnil rfl
    go_enter Try.func52, Try.ntmps52
    go_wp2_with (at_builtin; refine wpList_append_own _ rfl _ _ 22 rfl B 9 i0 (.string ⟨#[]⟩) 1 16 Try.underlying22 hi hz0 hz1 hz2 rfl (by decide) _ _ _ rfl HV.out ⟨vb, 0, none⟩ 1 1 [.string x] rfl rfl hnews hone (by unfold maxLen; omega) (by omega) hB ?_)
    intro v' w1 hown hgrow hnil2
    go_wp2_with fail
    go_ret
    exact ⟨v', rfl, by rw [← strs_upd_end]; exact hown, (Below.refl B w).grown hgrow hB (fun k hk => (HV.out.lt k hk).1)⟩
  | some a =>
    obtain ⟨g, rfl⟩ := hshape a rfl
    go_enter Try.func52, Try.ntmps52
    go_wp2_with (at_builtin; refine wpList_append_own _ rfl _ _ 22 rfl B 9 i0 (.string ⟨#[]⟩) 1 16 Try.underlying22 hi hz0 hz1 hz2 rfl (by decide) _ _ _ rfl HV.out ⟨vb, 0, none⟩ 1 1 [.string x] rfl rfl hnews hone (by unfold maxLen; omega) (by omega) hB ?_)
    all_goals
      intro v' w1 hown hgrow hnil2
      go_wp2_with fail
      go_ret
      exact ⟨v', rfl, by rw [← strs_upd_end]; exact hown, (Below.refl B w).grown hgrow hB (fun k hk => (HV.out.lt k hk).1)⟩
end Go.Proofs.Ytkjnjccjkjachaa
