/- Statuses: awake. -/
import Derived.Test.YtpmhcpphbilokaaClogJ
namespace Go.Proofs.Ytpmhcpphbilokaa
open Go.RowKit
set_option linter.unusedSimpArgs false
set_option maxRecDepth 100000

theorem PK.ne_strs {w : World} {b : Nat} {a0 a1 a2 a3 : Int} {h : ByteArray} {ao' : Option Addr} {n' c' : Nat} (H : PK w b a0 a1 a2 a3 h (.slice ao' n' c')) {g off : Nat} {S : Nat → ByteArray} (hs : StrsIn w (some ⟨g, off, none⟩) 2 S) : g ≠ b := by
  intro e
  subst e
  have h0 := itAt hs (i := 0) (by omega)
  have h1 := itAt hs (i := 1) (by omega)
  unfold PK at H
  simp only [World.cell?, H] at h0 h1
  match off with
  | 0 => simp at h0
  | 1 => simp at h0
  | 2 => simp at h0
  | 3 => simp at h0
  | 4 => simp at h1
  | 5 => simp at h0
  | k + 6 => simp at h0
theorem PR.st {m : Int} {w w' : World} {lsn F : Int} {f : Nat → Nat} {ao : Option Addr} {S : Nat → ByteArray} (H : PR m w lsn F f ao S) {b : Nat} {a0 a1 a2 a3 : Int} {h : ByteArray} {ao' : Option Addr} {n' c' : Nat} (hp : PK w b a0 a1 a2 a3 h (.slice ao' n' c')) (hg : w.grownBy w' (some b)) : PR m w' lsn F f ao S :=
  ⟨H.it.grown hg (fun g off e => by have h := H.it; rw [e] at h; exact hp.ne_strs h), H.s0, H.s1, H.hm, H.hF, H.hl, H.hf⟩
theorem okf_zero (k : Nat) : okf (fun _ => 0) k := ⟨fun _ => by omega, fun _ _ => rfl⟩
/-- A page in its block. -/
structure LV (m : Int) (w : World) (b : Nat) (lsn F : Int) (f : Nat → Nat) (ao : Option Addr) (S : Nat → ByteArray) : Prop where
  pk : PK w b lsn 1 0 0 ⟨#[]⟩ (.slice ao 2 2)
  pr : PR m w lsn F f ao S
theorem LV.below {m : Int} {w w' : World} {b : Nat} {lsn F : Int} {f : Nat → Nat} {ao : Option Addr} {S : Nat → ByteArray} (H : LV m w b lsn F f ao S) (hb : Below w.heap.size w w') : LV m w' b lsn F f ao S := ⟨H.pk.below hb, H.pr.below hb⟩
theorem LV.st {m : Int} {w w' : World} {b : Nat} {lsn F : Int} {f : Nat → Nat} {ao : Option Addr} {S : Nat → ByteArray} (H : LV m w b lsn F f ao S) {b' : Nat} {a0 a1 a2 a3 : Int} {h : ByteArray} {ao' : Option Addr} {n' c' : Nat} (hp : PK w b' a0 a1 a2 a3 h (.slice ao' n' c')) (hg : w.grownBy w' (some b')) (hne : b ≠ b') : LV m w' b lsn F f ao S :=
  ⟨H.pk.grown hg (by simpa using hne), H.pr.st hp hg⟩
theorem LV.c0 {m : Int} {w : World} {b : Nat} {lsn F : Int} {f : Nat → Nat} {g off : Nat} {S : Nat → ByteArray} (H : LV m w b lsn F f (some ⟨g, off, none⟩) S) : w.cell? ⟨g, off, none⟩ = some (.string (numS F)) := by
  have h := itAt H.pr.it (i := 0) (by omega)
  rw [H.pr.s0] at h
  exact h
theorem LV.c1 {m : Int} {w : World} {b : Nat} {lsn F : Int} {f : Nat → Nat} {g off : Nat} {S : Nat → ByteArray} (H : LV m w b lsn F f (some ⟨g, off, none⟩) S) : w.cell? ⟨g, off + 1, none⟩ = some (.string ⟨(bsOf f (sz m)).toArray⟩) := by
  have h := itAt H.pr.it (i := 1) (by omega)
  rw [H.pr.s1] at h
  exact h

def fA : Nat → Nat := upd (fun _ => 0) 4 2
def fB : Nat → Nat := upd fA 7 3
def fC : Nat → Nat := cutN 16 3 fB 5
theorem okA : okf fA (16 : Int).toNat := set_ok (m := 16) (x := 5) (s := 2) (okf_zero _) (by decide) (by decide)
theorem okB : okf fB (16 : Int).toNat := set_ok (m := 16) (x := 8) (s := 3) okA (by decide) (by decide)
theorem okC : okf fC (16 : Int).toNat := cutN_out okB 5
theorem bs0 : (bsOf (fun _ => 0) (sz 16)).toArray = #[0, 0, 0, 0] := by decide
theorem bsB : (bsOf fB (sz 16)).toArray = #[0, 194, 0, 0] := by decide
theorem bsC : (bsOf fC (sz 16)).toArray = #[0, 192, 0, 0] := by decide
theorem num8 : numS 8 = ⟨#[8]⟩ := by kernel_rfl

set_option maxHeartbeats 2000000 in
theorem awake_k (w : World) : Calls Try.prog 15 #[] w fun e w' => e = .returned (.bool true) ∧ Below w.heap.size w w' := by
  go_enter Try.func15, Try.ntmps15
  go_wp2_with fail
  have e0 : blV 16 3 = (0, 0, 3, bsOf (fun _ => 0) (sz 16)) := by decide
  refine (blank_c 16 3 w).mono ?_
  rintro e w1 ⟨⟨ls1, k1, ao1, n1, S1, rfl, hs1, hp1⟩, hb1⟩
  rw [e0] at hp1 ⊢
  clear e0
  obtain ⟨rfl, rfl, rfl, h1⟩ := pr_of hp1 hs1 (by decide) (by decide) (by decide) (okf_zero _)
  clear hp1 hs1
  obtain ⟨g1, o1, rfl, hg1⟩ := h1.it.blk (by omega)
  have hip := pg_new w1
  have HB1 := Lib.hid hb1
  have H1 := Lib.hid h1
  have HN1 : Hid (w.heap.size ≤ w1.heap.size) := HB1.out.size
  clear h1 hb1
  go_wp2_with (refine wpList_st_page' rfl _ _ rfl w1.heap.size rfl _ _ _ _ _ _ rfl rfl hip (fun w2 hp2 hg2 => ?_); (obtain ⟨c0, c1, c2, c3, c4, c5⟩ := hp2.cell); have L2 : Hid (LV 16 w2 w1.heap.size 0 3 (fun _ => 0) (some ⟨g1, o1, none⟩) S1) := (by exact ⟨hp2, H1.out.below (new_below hg2)⟩); have s1 := L2.out.c1; rw [bs0] at s1; have HB2 := Lib.hid (HB1.out.trans ((new_below hg2).mono HB1.out.size)); clear hg2 hp2 HB1 H1)
  clear c0 c1 c2 c3 c4 c5 s1 hip hg1
  generalize w1.heap.size = b1 at *
  have e1 : setR 16 0 3 (fun _ => 0) 5 2 = (0, 0, 3, bsOf fA (sz 16)) := by unfold setR; rw [if_pos (by decide)]; rfl
  refine (pr_set 16 0 3 5 2 _ _ _ w2 L2.out.pr (by decide)).mono ?_
  rintro e w3 ⟨⟨ls3, k3, ao3, n3, S3, rfl, hs3, hp3⟩, hb3⟩
  rw [e1] at hp3 ⊢
  clear e1
  obtain ⟨rfl, rfl, rfl, h3⟩ := pr_of hp3 hs3 (by decide) (by decide) (by decide) okA
  clear hp3 hs3
  have L3 := Lib.hid (L2.out.below hb3)
  have H3 := Lib.hid h3
  have HB3 := Lib.hid (HB2.out.trans (hb3.mono HB2.out.size))
  have hip := L3.out.pk.is
  clear hb3 h3 L2 HB2
  go_wp2_with (refine wpList_st_page' rfl _ _ rfl b1 rfl _ _ _ _ _ _ rfl rfl hip (fun w4 hp4 hg4 => ?_); (obtain ⟨c0, c1, c2, c3, c4, c5⟩ := hp4.cell); have L4 : Hid (LV 16 w4 b1 0 3 fA ao3 S3) := (by exact ⟨hp4, H3.out.st L3.out.pk hg4⟩); have HB4 := Lib.hid (below_own HB3.out HN1.out hg4); clear hg4 hp4 HB3 H3)
  clear c0 c1 c2 c3 c4 c5 hip L3
  have e1 : setR 16 0 3 fA 8 3 = (0, 0, 3, bsOf fB (sz 16)) := by unfold setR; rw [if_pos (by decide)]; rfl
  refine (pr_set 16 0 3 8 3 _ _ _ w4 L4.out.pr (by decide)).mono ?_
  rintro e w5 ⟨⟨ls5, k5, ao5, n5, S5, rfl, hs5, hp5⟩, hb5⟩
  rw [e1] at hp5 ⊢
  clear e1
  obtain ⟨rfl, rfl, rfl, h5⟩ := pr_of hp5 hs5 (by decide) (by decide) (by decide) okB
  clear hp5 hs5
  obtain ⟨g5, o5, rfl, hg5⟩ := h5.it.blk (by omega)
  have H5 := Lib.hid h5
  have HB5 := Lib.hid (HB4.out.trans (hb5.mono HB4.out.size))
  have HN5 : Hid (w.heap.size ≤ w5.heap.size) := HB5.out.size
  have hip := pg_new w5
  clear hb5 h5 L4 HB4 HN1 hg5
  go_wp2_with (refine wpList_st_page' rfl _ _ rfl w5.heap.size rfl _ _ _ _ _ _ rfl rfl hip (fun w6 hp6 hg6 => ?_); (obtain ⟨c0, c1, c2, c3, c4, c5⟩ := hp6.cell); have L6 : Hid (LV 16 w6 w5.heap.size 0 3 fB (some ⟨g5, o5, none⟩) S5) := (by exact ⟨hp6, H5.out.below (new_below hg6)⟩); have HB6 := Lib.hid (HB5.out.trans ((new_below hg6).mono HB5.out.size)); clear hg6 hp6 HB5 H5)
  clear c0 c1 c2 c3 c4 c5 hip
  generalize w5.heap.size = b5 at *
  have e1 : cutR 16 0 3 fB 8 = (0, 0, 8, bsOf fC (sz 16)) := by unfold cutR; rw [if_pos (by decide)]; rfl
  refine (pr_cut 16 0 3 8 _ _ _ w6 L6.out.pr).mono ?_
  rintro e w7 ⟨⟨ls7, k7, ao7, n7, S7, rfl, hs7, hp7⟩, hb7⟩
  rw [e1] at hp7 ⊢
  clear e1
  obtain ⟨rfl, rfl, rfl, h7⟩ := pr_of hp7 hs7 (by decide) (by decide) (by decide) okC
  clear hp7 hs7
  obtain ⟨g7, o7, rfl, hg7⟩ := h7.it.blk (by omega)
  have H7 := Lib.hid h7
  have L7 := Lib.hid (L6.out.below hb7)
  have HB7 := Lib.hid (HB6.out.trans (hb7.mono HB6.out.size))
  have hip := pg_new w7
  clear hb7 h7 L6 HB6 HN5 hg7
  go_wp2_with (refine wpList_st_page' rfl _ _ rfl w7.heap.size rfl _ _ _ _ _ _ rfl rfl hip (fun w8 hp8 hg8 => ?_); have L8 : Hid (LV 16 w8 w7.heap.size 0 8 fC (some ⟨g7, o7, none⟩) S7) := (by exact ⟨hp8, H7.out.below (new_below hg8)⟩); have L8b := Lib.hid (L7.out.below (new_below hg8)); (obtain ⟨c0, c1, c2, c3, c4, c5⟩ := L8b.out.pk.cell); have HB8 := Lib.hid (HB7.out.trans ((new_below hg8).mono HB7.out.size)); clear hg8 hp8 HB7 H7 L7)
  clear c0 c1 c2 c3 c4 c5 hip
  generalize w7.heap.size = b7 at *
  refine (pr_get 16 0 3 5 _ _ _ w8 L8b.out.pr).mono ?_
  rintro e w9 ⟨rfl, hb9⟩
  have e1 : getR 16 fB 5 = (2, 0) := by decide
  rw [e1]
  have L9 := Lib.hid (L8.out.below hb9)
  have L9b := Lib.hid (L8b.out.below hb9)
  have HB9 := Lib.hid (HB8.out.trans (hb9.mono HB8.out.size))
  clear e1 hb9 L8 L8b HB8
  have c5 := L9.out.pk.cell.2.2.2.2.2
  have d5 := L9b.out.pk.cell.2.2.2.2.2
  have s0 := L9.out.c0
  have s1 := L9.out.c1
  have s2 := L9b.out.c1
  rw [num8] at s0
  rw [bsC] at s1
  rw [bsB] at s2
  go_wp2_with fail
  go_ret
  exact ⟨rfl, HB9.out⟩
end Go.Proofs.Ytpmhcpphbilokaa
