/- awake. -/
import Derived.Test.YtbpkeeadfbobdaaBitsJ
namespace Go.Proofs.Ytbpkeeadfbobdaa
open Go.RowKit
set_option linter.unusedSimpArgs false

theorem num3_c (bw B : Nat) (v : Value) (l : List UInt8) (x y z : Int) (w0 w : World) (hw0 : WrV w0 bw B 5 v l) (hw : w = w0.alloc (.cells #[.int .i64 x, .int .i64 y, .int .i64 z] 3))
    (hx : x ≤ 9223372036854775807) (hy : y ≤ 9223372036854775807) (hz : z ≤ 9223372036854775807) (hlen : l.length + 27 ≤ 140737488355328) :
    Calls Try.prog 19 #[.pointer (some ⟨bw, 0, none⟩), .slice (some ⟨w0.heap.size, 0, none⟩) 3 3] w fun e w' => e = .returned (.tuple #[]) ∧ ∃ v', WS w0 v bw B 5 w' v' (l ++ sevs [x, y, z]) := by
  subst hw
  have h1 := hw0.lt
  have h2 := hw0.le
  have h4 : ∀ g, v.ownBlock = some g → g < w0.heap.size := fun g hg => (hw0.own.lt g hg).2
  refine (num_c bw B v l [x, y, z] (some ⟨w0.heap.size, 0, none⟩) 3 _ (hw0.alloc _) ?_ ?_ ?_ (by simp; omega)).mono ?_
  · intro t ht; simp at ht; omega
  · intro j t hj
    match j, hj with
    | 0, hj => simp at hj; subst hj; exact ⟨_, rfl, by simp [Addr.add]⟩
    | 1, hj => simp at hj; subst hj; exact ⟨_, rfl, by simp [Addr.add]⟩
    | 2, hj => simp at hj; subst hj; exact ⟨_, rfl, by simp [Addr.add]⟩
    | (j + 3), hj => simp at hj
  · rintro ad ⟨⟩
    refine ⟨by simp; omega, ?_⟩
    intro h; have := h4 _ h.symm; simp at this
  · rintro e w1 ⟨rfl, v1, hS⟩
    exact ⟨rfl, v1, ((WS.start hw0).below ((Below.refl _ w0).alloc (Nat.le_refl _) _)).trans hS⟩
theorem num1_c (bw B : Nat) (v : Value) (l : List UInt8) (x : Int) (w0 w : World) (hw0 : WrV w0 bw B 5 v l) (hw : w = w0.alloc (.cells #[.int .i64 x] 3))
    (hx : x ≤ 9223372036854775807) (hlen : l.length + 9 ≤ 140737488355328) :
    Calls Try.prog 19 #[.pointer (some ⟨bw, 0, none⟩), .slice (some ⟨w0.heap.size, 0, none⟩) 1 1] w fun e w' => e = .returned (.tuple #[]) ∧ ∃ v', WS w0 v bw B 5 w' v' (l ++ sev x.toNat) := by
  subst hw
  have h1 := hw0.lt
  have h2 := hw0.le
  have h4 : ∀ g, v.ownBlock = some g → g < w0.heap.size := fun g hg => (hw0.own.lt g hg).2
  refine (num_c bw B v l [x] (some ⟨w0.heap.size, 0, none⟩) 1 _ (hw0.alloc _) ?_ ?_ ?_ (by simp; omega)).mono ?_
  · intro t ht; simp at ht; omega
  · intro j t hj
    match j, hj with
    | 0, hj => simp at hj; subst hj; exact ⟨_, rfl, by simp [Addr.add]⟩
    | (j + 1), hj => simp at hj
  · rintro ad ⟨⟩
    refine ⟨by simp; omega, ?_⟩
    intro h; have := h4 _ h.symm; simp at this
  · rintro e w1 ⟨rfl, v1, hS⟩
    rw [sevs_one] at hS
    exact ⟨rfl, v1, ((WS.start hw0).below ((Below.refl _ w0).alloc (Nat.le_refl _) _)).trans hS⟩

theorem RdV.touch {w w' : World} {br bw : Nat} {ob : Option Nat} {s : ByteArray} {c : Int} (h : RdV w br s c) (ht : Touch bw ob w w') (h1 : br ≠ bw) (h2 : some br ≠ ob) : RdV w' br s c :=
  have hk := ht.block br h.lt h1 h2
  ⟨ht.at h.rest h1 h2, ht.at h.err h1 h2, (World.frozen?_of_block (a := ⟨br, 0, none⟩) hk).trans h.f0, (World.frozen?_of_block (a := ⟨br, 1, none⟩) hk).trans h.f1⟩

theorem awake_nums : [] ++ sevs [300, -5, 0] = [172, 2, 0, 0] := by
  simp only [sevs, List.flatMap_cons, List.flatMap_nil]
  rw [sev_high (by decide), sev_low (by decide), sev_low (by decide), sev_low (by decide)]
  decide
theorem awake_text : ([172, 2, 0, 0] : List UInt8) ++ txl ⟨#[97, 98]⟩ = [172, 2, 0, 0, 2, 97, 98] := by
  unfold txl
  rw [sev_low (by decide)]
  decide
theorem awake_num : numOut ⟨#[172, 2, 2, 97, 98]⟩ 300 = (300, ⟨#[2, 97, 98]⟩, 0) := by decide
theorem awake_txt : textOut ⟨#[2, 97, 98]⟩ 2 = (⟨#[97, 98]⟩, ⟨#[]⟩, 0) := by decide
theorem awake_sum : (csum (ByteArray.data ⟨#[49, 50, 51, 52, 53, 54, 55, 56, 57]⟩).toList : Nat) = 3421780262 := by kernel_rfl
theorem awake_big : bigL 258 2 = [1, 2] := by decide
theorem awake_of : ofV (ByteArray.data ⟨#[1, 2]⟩).toList = 258 := by decide

set_option maxHeartbeats 1000000 in
theorem awake_c (w : World) :
    Calls Try.prog 11 #[] w fun e w' => e = .returned (.bool true) ∧ Below w.heap.size w w' := by
  go_enter Try.func11, Try.ntmps11
  go_wp2_with fail
  refine (new_c _).mono ?_
  rintro e w1 ⟨rfl, hw, hb, hsz⟩
  have HW := Lib.hid hw
  have HB1 := Lib.hid hb
  have HSZ := Lib.hid hsz
  clear hw hb hsz
  go_wp2_with fail
  refine (read_c _ _).mono ?_
  rintro e w2 ⟨rfl, hr, hb, hsz⟩
  have HR2 := Lib.hid hr
  have HW2 := Lib.hid (HW.out.below hb)
  have HB2 := Lib.hid (HB1.out.trans (hb.mono HB1.out.size))
  clear hr hb hsz HW
  have HBR : Hid (w.heap.size < w1.heap.size ∧ w1.heap.size < w2.heap.size) := ⟨by rw [HSZ.out]; omega, HR2.out.lt⟩
  go_wp2_with fail
  refine (num3_c _ _ _ _ 300 (-5) 0 _ _ HW2.out rfl (by decide) (by decide) (by decide) (by simp)).mono ?_
  rw [awake_nums]
  rintro e w3 ⟨rfl, v3, hS⟩
  have HS3 := Lib.hid hS
  clear hS
  go_wp2_with fail
  refine (text_c _ _ _ _ ⟨#[97, 98]⟩ _ HS3.out.wr (by decide) (by decide)).mono ?_
  rw [awake_text]
  rintro e w4 ⟨rfl, v4, hS⟩
  have HS4 := Lib.hid (HS3.out.trans hS)
  have HR4 := Lib.hid (HR2.out.touch HS4.out.touch (by have := HBR.out; omega) (by simp [Value.ownBlock]))
  have HB4 := Lib.hid (HB2.out.trans (HS4.out.touch.below HB2.out.size (Nat.le_refl _) (by simp [Value.ownBlock])))
  clear hS
  go_wp2_with fail
  refine (num_r _ _ 300 _ HR4.out).mono ?_
  rw [awake_num]
  rintro e w5 ⟨rfl, hr, hg⟩
  have HR5 := Lib.hid hr
  have HG5 := Lib.hid hg
  clear hr hg
  go_wp2_with fail
  refine (text_r _ _ 2 _ HR5.out).mono ?_
  rw [awake_txt]
  rintro e w6 ⟨rfl, hr, hg⟩
  have HR6 := Lib.hid hr
  have HG6 := Lib.hid (grown_trans HG5.out hg)
  clear hr hg
  have HW6 : Hid (WrV w6 w.heap.size w1.heap.size 5 v4 [172, 2, 0, 0, 2, 97, 98]) := by
    refine HS4.out.wr.kept HG6.out (by have := HBR.out; simp; omega) ?_
    rcases HS4.out.nob with h | ⟨g, h, hg⟩
    · exact .inl (by rw [h]; rfl)
    · exact .inr (by rw [h]; have := HBR.out; simp; omega)
  have HB6 := Lib.hid (HB4.out.grown HG6.out HB4.out.size (by rintro j hj; cases hj; have := HBR.out; omega))
  go_wp2_with fail
  refine (bytes_c _ _ _ _ _ HW6.out).mono ?_
  rintro e w7 ⟨rfl, rfl⟩
  go_wp2_with fail
  refine (end_r _ _ _ _ HR6.out).mono ?_
  rintro e w7 ⟨rfl, rfl⟩
  go_wp2_with fail
  refine (sum_c _ _ (by decide)).mono ?_
  rw [awake_sum]
  rintro e w7 ⟨rfl, rfl⟩
  go_wp2_with fail
  refine (big_yes 258 2 _ (by decide) (by decide) (by decide)).mono ?_
  rw [awake_big]
  rintro e w7 ⟨rfl, hb⟩
  have HB7 := Lib.hid (HB6.out.trans (hb.mono HB6.out.size))
  clear hb
  go_wp2_with fail
  refine (of_c _ _ (by decide)).mono ?_
  rw [awake_of]
  rintro e w8 ⟨rfl, rfl⟩
  go_wp2_with fail
  go_ret
  exact ⟨rfl, HB7.out⟩
end Go.Proofs.Ytbpkeeadfbobdaa
