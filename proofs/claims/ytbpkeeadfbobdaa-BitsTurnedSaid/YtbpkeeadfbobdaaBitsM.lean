/- The walk of BitsTurned. -/
import Derived.Test.YtbpkeeadfbobdaaBitsL
import Derived.StillTailTactics
import Derived.Laws.IdiomStrings
namespace Go.Proofs.Ytbpkeeadfbobdaa
open Go.RowKit
set_option linter.unusedSimpArgs false

theorem sum_empty : csum (ByteArray.data ⟨#[]⟩).toList = 0 := by kernel_rfl
theorem beq_empty (s : ByteArray) (h : s.size = 0) : s = ⟨#[]⟩ := by
  apply ByteArray.ext
  exact Array.eq_empty_of_size_eq_zero h

theorem not_empty {s : ByteArray} (h : 0 < s.size) : s.toList.isEmpty = false := by
  rw [ByteArray.toList_eq]
  have : s.data.toList.length = s.size := Array.length_toList
  cases hl : s.data.toList with
  | nil => rw [hl] at this; simp at this; omega
  | cons _ _ => rfl
/-- '[]byte(s)' lies in a new block. -/
structure Made (w0 : World) (s : ByteArray) (w : World) : Prop where
  bel : Below w0.heap.size w0 w
  gt : w0.heap.size < w.heap.size
  cell : ∀ j (h : j < s.size), w.cell? ⟨w0.heap.size, j, none⟩ = some (.int .u8 s[j].toNat)
  fr : ∀ j, j < s.size → w.frozen? ⟨w0.heap.size, j, none⟩ = false
theorem made_new (w : World) (s : ByteArray) (c : Nat) (e : TypeId) : Made w s (w.alloc (.cells (bytesRow s c) e ((bytesRow s c).size, (bytesRow s c).size + 1))).drew := by
  have hl : (bytesRow s c).size = s.size + (c - s.size) := by simp [bytesRow]
  have hg : (w.alloc (.cells (bytesRow s c) e ((bytesRow s c).size, (bytesRow s c).size + 1))).drew.heap[w.heap.size]? = some (.cells (bytesRow s c) e ((bytesRow s c).size, (bytesRow s c).size + 1)) := by
    show (w.heap.push _)[w.heap.size]? = _
    simp
  refine ⟨?_, ?_, ?_, ?_⟩
  · have h := (Below.refl w.heap.size w).alloc (Nat.le_refl _) (.cells (bytesRow s c) e ((bytesRow s c).size, (bytesRow s c).size + 1))
    exact ⟨h.os, h.tape, h.output, h.size, h.block⟩
  · show w.heap.size < (w.heap.push _).size
    simp
  · intro j hj
    simp only [World.cell?, hg]
    have h1 : (bytesRow s c)[j]? = some (.int .u8 s[j].toNat) := by
      unfold bytesRow
      rw [Array.getElem?_append_left (by simpa using hj)]
      simp [hj]
      rfl
    simpa using h1
  · intro j hj
    simp only [World.frozen?, hg]
    simp
    omega

theorem xor_byte (c : UInt8) (b : Int) (h1 : 0 < b) (h2 : b ≤ 255) : bits BinOp.xor IntKind.u8 (c.toNat : Int) b = ((c ^^^ UInt8.ofNat b.toNat).toNat : Int) ∧ c ^^^ UInt8.ofNat b.toNat ≠ c := by
  obtain ⟨n, rfl⟩ := Int.eq_ofNat_of_zero_le (Int.le_of_lt h1)
  have hc := c.toNat_lt
  have e1 : (UInt8.ofNat ((n : Int)).toNat).toNat = n := by simp; omega
  constructor
  · rw [u8_xor_nat _ _ (by omega) (by omega), UInt8.toNat_xor, e1]
  · intro e
    have h3 := congrArg UInt8.toNat e
    rw [UInt8.toNat_xor, e1] at h3
    have h4 : c.toNat ^^^ n = c.toNat ^^^ 0 := by rw [h3]; simp
    have := xor_right_inj h4
    omega
theorem Made.put {w0 w : World} {s : ByteArray} (h : Made w0 s w) {k : Nat} (hk : k < s.size) (x : UInt8) :
    ∀ j (hj : j < (s.data.toList.set k x).length), (w.setCell ⟨w0.heap.size, k, none⟩ (.int .u8 x.toNat)).cell? ⟨w0.heap.size, j, none⟩ = some (.int .u8 (s.data.toList.set k x)[j].toNat) := by
  intro j hj
  have hj' : j < s.size := by rw [List.length_set] at hj; exact hj
  rw [List.getElem_set]
  by_cases e : k = j
  · subst e
    rw [if_pos rfl]
    exact set_same _ (h.cell k hk)
  · rw [if_neg e]
    exact set_other _ (by intro h; injection h with _ h2; exact e h2) (h.cell j hj')
theorem csum_set {s : ByteArray} {k : Nat} (hk : k < s.size) {x : UInt8} (h : x ≠ s[k]) : csum (s.data.toList.set k x) ≠ csum s.data.toList := by
  have hk' : k < s.data.toList.length := hk
  rw [List.set_eq_take_append_cons_drop, if_pos hk']
  have h2 : s.data.toList = s.data.toList.take k ++ s[k] :: s.data.toList.drop (k + 1) := by
    have := List.take_append_drop k s.data.toList
    rw [List.drop_eq_getElem_cons hk'] at this
    exact this.symm
  have h3 := csum_differs (s.data.toList.take k) (s.data.toList.drop (k + 1)) x s[k] h
  rw [← h2] at h3
  exact h3

theorem turned_no (s : ByteArray) (at' b : Int) (w : World) (h : s.size = 0 ∨ b = 0) :
    Calls Try.prog 9 #[.string s, .int .i64 at', .int .u8 b] w fun e w' => e = .returned (.bool true) ∧ Below w.heap.size w w' := by
  have fin : ∀ w, Calls Try.prog 12 #[.string ⟨#[]⟩] w fun e w' => e = .returned (.int .u32 0) ∧ w = w' := fun w => by
    have h := sum_c ⟨#[]⟩ w (by decide)
    rw [sum_empty] at h
    exact h
  have HF := Lib.hid fin
  clear fin
  by_cases hs : s.size = 0
  · have hse := beq_empty s hs
    subst hse
    clear hs h
    go_enter Try.func9, Try.ntmps9
    go_wp2_with fail
    refine (awake_c _).mono ?_
    rintro e w1 ⟨rfl, hb⟩
    have HB := Lib.hid hb
    clear hb
    go_wp2_with fail
    refine (HF.out _).mono ?_
    rintro e w2 ⟨rfl, rfl⟩
    go_wp2_with fail
    go_ret
    exact ⟨rfl, HB.out⟩
  · have hb0 : b = 0 := h.resolve_left hs
    subst hb0
    have hse := not_empty (Nat.pos_of_ne_zero hs)
    clear hs h
    go_enter Try.func9, Try.ntmps9
    go_wp2_with fail
    refine (awake_c _).mono ?_
    rintro e w1 ⟨rfl, hb⟩
    have HB := Lib.hid hb
    clear hb
    go_wp2_with fail
    refine (HF.out _).mono ?_
    rintro e w2 ⟨rfl, rfl⟩
    go_wp2_with fail
    go_ret
    exact ⟨rfl, HB.out⟩

set_option maxHeartbeats 2000000 in
theorem turned_yes (s : ByteArray) (at' b : Int) (w : World) (hs : 0 < s.size) (hs' : s.size ≤ 9223372036854775807) (hb : 0 < b ∧ b ≤ 255) (ha : -9223372036854775808 ≤ at' ∧ at' ≤ 9223372036854775807) :
    Calls Try.prog 9 #[.string s, .int .i64 at', .int .u8 b] w fun e w' => e = .returned (.bool true) ∧ Below w.heap.size w w' := by
  have hse := not_empty hs
  have hb0 : (b == 0) = false := by rw [beq_eq_false_iff_ne]; omega
  have hconv := run_bytes_of_string (P := Try.prog) (src := 9) (dst := 53) (e := 5) (s := s) (hs := Try.underlying9) (hd := Try.underlying53) (he := Try.underlying5)
  by_cases hneg : at' < 0
  · go_enter Try.func9, Try.ntmps9
    go_wp2_with fail
    have hM := made_new w s (grownCap w s.size 0 5) 5
    generalize (w.alloc (Obj.cells (bytesRow s (grownCap w s.size 0 5)) 5 ((bytesRow s (grownCap w s.size 0 5)).size, (bytesRow s (grownCap w s.size 0 5)).size + 1))).drew = w1 at *
    generalize grownCap w s.size 0 5 = cap at *
    obtain ⟨A, hA⟩ : ∃ A : Nat, -(at' + 1) = (A : Int) := ⟨(-(at' + 1)).toNat, by omega⟩
    rw [hA]
    have hA63 : A ≤ 9223372036854775807 := by omega
    have HM := Lib.hid hM
    have hk : A % s.size < s.size := Nat.mod_lt _ hs
    have hemp : ¬ s = ByteArray.empty := by intro e; subst e; simp at hs
    have htm : (A : Int).tmod (s.size : Int) = ((A % s.size : Nat) : Int) := (Int.ofNat_tmod _ _).symm
    have hcell := hM.cell _ hk
    generalize A % s.size = k at *
    have hcell' : w1.drew.cell? ⟨w.heap.size, k, none⟩ = some (.int .u8 s[k].toNat) := hcell
    have hfr' : w1.drew.frozen? ⟨w.heap.size, k, none⟩ = false := hM.fr _ hk
    clear hM hconv
    go_still_tail 14, (by kernel_rfl)
    change wpList _ _ _ _ _ w1.drew
    have HM2 : Hid (Made w s w1.drew) := ⟨⟨HM.out.bel.os, HM.out.bel.tape, HM.out.bel.output, HM.out.bel.size, HM.out.bel.block⟩, HM.out.gt, HM.out.cell, HM.out.fr⟩
    clear HM hcell
    generalize w1.drew = w2 at *
    have HX := Lib.hid (xor_byte s[k] b hb.1 hb.2)
    go_wp2_with fail
    obtain ⟨x, hx⟩ : ∃ x, x = s[k] ^^^ UInt8.ofNat b.toNat := ⟨_, rfl⟩
    rw [← hx] at HX
    rw [HX.out.1]
    have HC := Lib.hid (HM2.out.put hk x)
    have HB3 : Hid (Below w.heap.size w (w2.setCell ⟨w.heap.size, k, none⟩ (.int .u8 x.toNat))) := HM2.out.bel.grown (grown_set w2 w.heap.size k _) HM2.out.bel.size (by rintro j hj; cases hj; exact Nat.le_refl _)
    have HNE : Hid (csum (s.data.toList.set k x) ≠ csum s.data.toList) := csum_set hk HX.out.2
    clear hcell' hfr'
    generalize w2.setCell ⟨w.heap.size, k, none⟩ (.int .u8 x.toNat) = w3 at *
    refine (awake_c _).mono ?_
    rintro e w4 ⟨rfl, hb4⟩
    have HB4 := Lib.hid (HB3.out.trans (hb4.mono HB3.out.size))
    have hR := run_string_cells (P := Try.prog) w4 53 9 5 Try.underlying53 Try.underlying5 Try.underlying9 w.heap.size s.size cap (s.data.toList.set k x) (by rw [List.length_set]; exact Array.length_toList) (fun j hj => bel_at hb4 (HC.out j hj))
    have hsz : (⟨(s.data.toList.set k x).toArray⟩ : ByteArray).size ≤ 9223372036854775807 := by
      have h1 : (⟨(s.data.toList.set k x).toArray⟩ : ByteArray).size = s.size := by
        show (s.data.toList.set k x).toArray.size = s.size
        simp
      rw [h1]; exact hs'
    have hd : (ByteArray.data ⟨(s.data.toList.set k x).toArray⟩).toList = s.data.toList.set k x := by rw [List.toList_toArray]
    generalize (⟨(s.data.toList.set k x).toArray⟩ : ByteArray) = t at *
    rw [← hd] at HNE
    have HR := Lib.hid hR
    have HSZ := Lib.hid hsz
    clear hb4 hR hsz hd
    go_wp2_with fail
    rw [HR.out]
    go_wp2_with fail
    refine (sum_c t _ HSZ.out).mono ?_
    have HS2 := Lib.hid (fun w => sum_c s w hs')
    generalize csum t.data.toList = c1 at *
    generalize csum s.data.toList = c2 at *
    rintro e w5 ⟨rfl, rfl⟩
    go_wp2_with fail
    refine (HS2.out _).mono ?_
    rintro e w6 ⟨rfl, rfl⟩
    have hne : ((c1 : Int) == (c2 : Int)) = false := by
      rw [beq_eq_false_iff_ne]; have := HNE.out; omega
    go_wp2_with fail
    go_ret
    exact ⟨retB (by simp [bne, hne]), HB4.out⟩
  · obtain ⟨A, rfl⟩ := Int.eq_ofNat_of_zero_le (Int.not_lt.1 hneg)
    go_enter Try.func9, Try.ntmps9
    go_wp2_with fail
    have hM := made_new w s (grownCap w s.size 0 5) 5
    generalize (w.alloc (Obj.cells (bytesRow s (grownCap w s.size 0 5)) 5 ((bytesRow s (grownCap w s.size 0 5)).size, (bytesRow s (grownCap w s.size 0 5)).size + 1))).drew = w1 at *
    generalize grownCap w s.size 0 5 = cap at *
    have hA63 : A ≤ 9223372036854775807 := by omega
    have HM := Lib.hid hM
    have hk : A % s.size < s.size := Nat.mod_lt _ hs
    have hemp : ¬ s = ByteArray.empty := by intro e; subst e; simp at hs
    have htm : (A : Int).tmod (s.size : Int) = ((A % s.size : Nat) : Int) := (Int.ofNat_tmod _ _).symm
    have hcell := hM.cell _ hk
    generalize A % s.size = k at *
    have hcell' : w1.drew.cell? ⟨w.heap.size, k, none⟩ = some (.int .u8 s[k].toNat) := hcell
    have hfr' : w1.drew.frozen? ⟨w.heap.size, k, none⟩ = false := hM.fr _ hk
    clear hM hconv
    go_still_tail 14, (by kernel_rfl)
    change wpList _ _ _ _ _ w1.drew
    have HM2 : Hid (Made w s w1.drew) := ⟨⟨HM.out.bel.os, HM.out.bel.tape, HM.out.bel.output, HM.out.bel.size, HM.out.bel.block⟩, HM.out.gt, HM.out.cell, HM.out.fr⟩
    clear HM hcell
    generalize w1.drew = w2 at *
    have HX := Lib.hid (xor_byte s[k] b hb.1 hb.2)
    go_wp2_with fail
    obtain ⟨x, hx⟩ : ∃ x, x = s[k] ^^^ UInt8.ofNat b.toNat := ⟨_, rfl⟩
    rw [← hx] at HX
    rw [HX.out.1]
    have HC := Lib.hid (HM2.out.put hk x)
    have HB3 : Hid (Below w.heap.size w (w2.setCell ⟨w.heap.size, k, none⟩ (.int .u8 x.toNat))) := HM2.out.bel.grown (grown_set w2 w.heap.size k _) HM2.out.bel.size (by rintro j hj; cases hj; exact Nat.le_refl _)
    have HNE : Hid (csum (s.data.toList.set k x) ≠ csum s.data.toList) := csum_set hk HX.out.2
    clear hcell' hfr'
    generalize w2.setCell ⟨w.heap.size, k, none⟩ (.int .u8 x.toNat) = w3 at *
    refine (awake_c _).mono ?_
    rintro e w4 ⟨rfl, hb4⟩
    have HB4 := Lib.hid (HB3.out.trans (hb4.mono HB3.out.size))
    have hR := run_string_cells (P := Try.prog) w4 53 9 5 Try.underlying53 Try.underlying5 Try.underlying9 w.heap.size s.size cap (s.data.toList.set k x) (by rw [List.length_set]; exact Array.length_toList) (fun j hj => bel_at hb4 (HC.out j hj))
    have hsz : (⟨(s.data.toList.set k x).toArray⟩ : ByteArray).size ≤ 9223372036854775807 := by
      have h1 : (⟨(s.data.toList.set k x).toArray⟩ : ByteArray).size = s.size := by
        show (s.data.toList.set k x).toArray.size = s.size
        simp
      rw [h1]; exact hs'
    have hd : (ByteArray.data ⟨(s.data.toList.set k x).toArray⟩).toList = s.data.toList.set k x := by rw [List.toList_toArray]
    generalize (⟨(s.data.toList.set k x).toArray⟩ : ByteArray) = t at *
    rw [← hd] at HNE
    have HR := Lib.hid hR
    have HSZ := Lib.hid hsz
    clear hb4 hR hsz hd
    go_wp2_with fail
    rw [HR.out]
    go_wp2_with fail
    refine (sum_c t _ HSZ.out).mono ?_
    have HS2 := Lib.hid (fun w => sum_c s w hs')
    generalize csum t.data.toList = c1 at *
    generalize csum s.data.toList = c2 at *
    rintro e w5 ⟨rfl, rfl⟩
    go_wp2_with fail
    refine (HS2.out _).mono ?_
    rintro e w6 ⟨rfl, rfl⟩
    have hne : ((c1 : Int) == (c2 : Int)) = false := by
      rw [beq_eq_false_iff_ne]; have := HNE.out; omega
    go_wp2_with fail
    go_ret
    exact ⟨retB (by simp [bne, hne]), HB4.out⟩

theorem bitsTurned_w (s : ByteArray) (at' b : Int) (w : World) (hs' : s.size ≤ 9223372036854775807) (ha : -9223372036854775808 ≤ at' ∧ at' ≤ 9223372036854775807) (hb : 0 ≤ b ∧ b ≤ 255) :
    Calls Try.prog 9 #[.string s, .int .i64 at', .int .u8 b] w fun e w' => e = .returned (.bool true) ∧ Below w.heap.size w w' := by
  by_cases h : s.size = 0 ∨ b = 0
  · exact turned_no s at' b w h
  · exact turned_yes s at' b w (by omega) hs' (by omega) ha
end Go.Proofs.Ytbpkeeadfbobdaa
