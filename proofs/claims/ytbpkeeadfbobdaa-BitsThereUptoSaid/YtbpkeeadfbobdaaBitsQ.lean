/- The walk of BitsTakes. -/
import Derived.Test.YtbpkeeadfbobdaaBitsP
import Derived.Test.YtbpkeeadfbobdaaQuiet
import Derived.Deep.RegionHeld3
namespace Go.Proofs.Ytbpkeeadfbobdaa
open Go.RowKit
set_option linter.unusedSimpArgs false
attribute [local irreducible] wpQuiet

/-- A list of items lies in memory: what each is. -/
def ItemsIn (w : World) (ao : Option Addr) (len : Nat) (K N : Nat → Int) (S : Nat → ByteArray) : Prop :=
  ∀ i, i < len → ∃ b off, ao = some ⟨b, off, none⟩ ∧ w.cell? ⟨b, off + i * 3, none⟩ = some (.int .u8 (K i)) ∧ w.cell? ⟨b, off + i * 3 + 1, none⟩ = some (.int .i64 (N i)) ∧ w.cell? ⟨b, off + i * 3 + 2, none⟩ = some (.string (S i))

/-- Both readers. -/
structure Tk (W wr : World) (b1 bx : Nat) (s rest : ByteArray) (a : Nat) (c : Int) : Prop where
  r : RdV wr b1 rest c
  x : RfV wr bx s a c
  ok : c = 0 → rest = dropS s a
  er : c ≠ 0 → rest = ⟨#[]⟩
  bel : Below W.heap.size W wr
  ne : b1 ≠ bx
  n1 : W.heap.size ≤ b1
  n2 : W.heap.size ≤ bx
theorem Tk.below {W wr w' : World} {b1 bx : Nat} {s rest : ByteArray} {a : Nat} {c : Int} (h : Tk W wr b1 bx s rest a c) (hb : Below wr.heap.size wr w') : Tk W w' b1 bx s rest a c :=
  ⟨h.r.below hb, h.x.below hb, h.ok, h.er, h.bel.trans (hb.mono h.bel.size), h.ne, h.n1, h.n2⟩
theorem Tk.left {W wr : World} {b1 bx : Nat} {s rest : ByteArray} {a : Nat} {c : Int} (h : Tk W wr b1 bx s rest a c) : leftV s a c = rest.size := by
  unfold leftV
  by_cases hc : c = 0
  · rw [if_pos hc, h.ok hc, dropS_size]
  · rw [if_neg hc, h.er hc]; rfl
theorem Tk.num {W wr w1 w2 : World} {b1 bx : Nat} {s rest : ByteArray} {a : Nat} {c : Int} (h : Tk W wr b1 bx s rest a c) {o : ByteArray × Int} (hg1 : wr.grownBy w1 (some b1)) (hg2 : w1.grownBy w2 (some bx)) (hr : RdV w1 b1 o.1 o.2)
    {a' : Nat} (hx : RfV w2 bx s a' o.2) (hk : o.2 = 0 → o.1 = dropS s a') (he : o.2 ≠ 0 → o.1 = ⟨#[]⟩) : Tk W w2 b1 bx s o.1 a' o.2 :=
  ⟨hr.grown hg2 (by simp; exact h.ne), hx, hk, he, (h.bel.grown hg1 h.bel.size (by rintro j hj; cases hj; exact h.n1)).grown hg2 (Nat.le_trans h.bel.size hg1.size) (by rintro j hj; cases hj; exact h.n2), h.ne, h.n1, h.n2⟩

set_option maxRecDepth 100000 in
set_option maxHeartbeats 4000000 in
theorem bitsTakes_w (s : ByteArray) (ao : Option Addr) (len cap : Nat) (K N : Nat → Int) (S : Nat → ByteArray) (w : World) (hs : s.size ≤ 9223372036854775000) (hlen : len ≤ 9223372036854775807) (hit : ItemsIn w ao len K N S) :
    Calls Try.prog 6 #[.string s, .slice ao len cap] w fun e w' => e = .returned (.bool true) ∧ Below w.heap.size w w' := by
  have HIT := Lib.hid hit
  have HSZ := Lib.hid hs
  clear hit hs
  go_enter Try.func6, Try.ntmps6
  go_wp2_with fail
  refine (read_c s _).mono ?_
  rintro e w1 ⟨rfl, hr, hb, hsz⟩
  have HR := Lib.hid hr
  have HB := Lib.hid hb
  have HZ := Lib.hid hsz
  clear hr hb hsz
  go_wp2_with fail
  have HS : Hid (Tk w (w1.alloc (.cells #[.string s, .int .i64 0, .int .i64 0] 46)) w.heap.size w1.heap.size s s 0 0) :=
    ⟨HR.out.below ((Below.refl _ w1).alloc (Nat.le_refl _) _), ⟨by simp [go_sem], by simp [go_sem], by simp [go_sem], by simp [go_sem], by simp [go_sem], Nat.zero_le _⟩, fun _ => by unfold dropS; simp, fun h => absurd rfl h, HB.out.trans ((Below.refl _ w1).alloc HB.out.size _), by have := HZ.out; omega, Nat.le_refl _, by have := HZ.out; omega⟩
  generalize w1.alloc (.cells #[.string s, .int .i64 0, .int .i64 0] 46) = w2 at *
  obtain ⟨b1, hb1⟩ : ∃ b1, b1 = w.heap.size := ⟨_, rfl⟩
  obtain ⟨bx, hbx⟩ : ∃ bx, bx = w1.heap.size := ⟨_, rfl⟩
  rw [← hb1, ← hbx]
  have HS1 : Hid (Tk w w2 b1 bx s s 0 0) := by rw [hb1, hbx]; exact HS
  clear HS HR HB HZ hb1 hbx w1
  go_loopw [7] (fun i wr => ∃ k : Nat, k ≤ len ∧ i = .int .i64 k ∧ Hid (∃ rest a c, Tk w wr b1 bx s rest a c)) (fun i _ => len - (intOf i).toNat)
  case atStart => exact ⟨0, Nat.zero_le _, rfl, ⟨s, 0, 0, HS1.out⟩⟩
  case round =>
    obtain ⟨k, hk, rfl, HR⟩ := hrel
    obtain ⟨rest, a, c, hT⟩ := HR.out
    have HT := Lib.hid hT
    clear hT HR HS1
    by_cases hlt : k < len
    · obtain ⟨b, off, hao, q0, q1, _⟩ := HIT.out k hlt
      have r0 := (HT.out.bel.cell (p := ⟨b, off + k * 3, none⟩) (World.block_lt_of_cell? w _ q0)).trans q0
      have r1 := (HT.out.bel.cell (p := ⟨b, off + k * 3 + 1, none⟩) (World.block_lt_of_cell? w _ q1)).trans q1
      have HLT := Lib.hid (World.block_lt_of_cell? w _ q1)
      rw [hao]
      clear hao q0 q1
      generalize K k = q at r0
      generalize N k = z at r1
      go_wp2_with fail
      · have HT1 := Lib.hid (HT.out.below (by exact (Below.refl _ wr).drew))
        have hz0 := bel_at (by exact (Below.refl _ wr).drew) r1
        have C1 := Lib.hid (fun w => num_any b1 rest c z w)
        have C2 := Lib.hid (fun w h => rfnum_any bx s rest a c z w h HT1.out.ok HSZ.out)
        have HER := Lib.hid (stepN_err rest c z HT1.out.er)
        have HB1 := Lib.hid (show some b ≠ some b1 by have := HT1.out.n1; have := HLT.out; simp; omega)
        have HBX := Lib.hid (show some b ≠ some bx by have := HT1.out.n2; have := HLT.out; simp; omega)
        have HNE := Lib.hid (show some bx ≠ some b1 by have := HT1.out.ne; simp; omega)
        generalize stepN rest c z = o at C1 C2 HER
        obtain ⟨o1, R, E⟩ := o
        go_region_held3 (fun w' => w'.cell? ⟨b, off + k * 3 + 1, none⟩ = some (.int .i64 z))
          ((first | (go_keep; done) | exact hk2 | exact hk1))
          (first | (go_at_call 25; refine (C1.out _ HT1.out.r).mono ?_; rintro e w3 ⟨rfl, hr3, hg3⟩; have hk1 := grown_at hg3 hz0 HB1.out) | (go_at_call 26; refine (C2.out _ (HT1.out.x.grown hg3 HNE.out)).mono ?_; rintro e w4 ⟨rfl, ⟨a', hx4, ho4⟩, hg4⟩; have hk2 := grown_at hg4 hk1 HBX.out))
        have HT2 : Hid (Tk w w4 b1 bx s R a' E) := HT1.out.num (o := (R, E)) hg3 hg4 hr3 hx4 ho4 HER.out
        clear hr3 hg3 hg4 hx4 ho4 hk1 hk2
        go_wp2_with fail
        refine wp_region_q (fun wx => Tk w wx b1 bx s R a' E) (by kernel_rfl) (by kernel_rfl) (HT2.out.below (by exact (Below.refl _ _).drew)) ?_
        iterate 1 (refine q_take (v := ?_) (by kernel_rfl) (by intro w' hC; (try dsimp only at hC); have e0 := hC.x.err; go_simp; try (with_reducible rfl)) ?_; try simp only [Act.put, List.setIfInBounds_toArray, List.set_cons_zero, List.set_cons_succ])
        refine q_call (v := .int .i64 (R.size : Int)) (f := ?_) (args := ?_) (by kernel_rfl) (by intro w' hC; (try dsimp only at hC); go_simp; first | (constructor <;> with_reducible rfl) | (with_reducible rfl)) (by intro w' hC; (try dsimp only at hC); exact (left_r b1 R E w' hC.r).mono (fun e wx ⟨h, hh⟩ => ⟨h, by rw [← hh]; exact hC⟩)) ?_
        try simp only [Act.put, List.setIfInBounds_toArray, List.set_cons_zero, List.set_cons_succ]
        iterate 1 (refine q_take (v := ?_) (by kernel_rfl) (by intro w' hC; (try dsimp only at hC); have e0 := hC.x.err; go_simp; try (with_reducible rfl)) ?_; try simp only [Act.put, List.setIfInBounds_toArray, List.set_cons_zero, List.set_cons_succ])
        refine q_call (v := .int .i64 (R.size : Int)) (f := ?_) (args := ?_) (by kernel_rfl) (by intro w' hC; (try dsimp only at hC); go_simp; first | (constructor <;> with_reducible rfl) | (with_reducible rfl)) (by intro w' hC; (try dsimp only at hC); exact (rleft_c bx s a' E w' hC.x (Nat.le_trans HSZ.out (by decide))).mono (fun e wx ⟨h, hh⟩ => ⟨by rw [h, hC.left], hC.below hh⟩)) ?_
        try simp only [Act.put, List.setIfInBounds_toArray, List.set_cons_zero, List.set_cons_succ]
        iterate 3 (refine q_take (v := ?_) (by kernel_rfl) (by intro w' hC; (try dsimp only at hC); have e0 := hC.x.err; go_simp; try (with_reducible rfl)) ?_; try simp only [Act.put, List.setIfInBounds_toArray, List.set_cons_zero, List.set_cons_succ])
        refine q_call (v := .int .i64 E) (f := ?_) (args := ?_) (by kernel_rfl) (by intro w' hC; (try dsimp only at hC); go_simp; first | (constructor <;> with_reducible rfl) | (with_reducible rfl)) (by intro w' hC; (try dsimp only at hC); exact (err_r b1 R E w' hC.r).mono (fun e wx ⟨h, hh⟩ => ⟨h, by rw [← hh]; exact hC⟩)) ?_
        try simp only [Act.put, List.setIfInBounds_toArray, List.set_cons_zero, List.set_cons_succ]
        iterate 8 (refine q_take (v := ?_) (by kernel_rfl) (by intro w' hC; (try dsimp only at hC); have e0 := hC.x.err; go_simp; try (with_reducible rfl)) ?_; try simp only [Act.put, List.setIfInBounds_toArray, List.set_cons_zero, List.set_cons_succ])
        refine q_call (v := .int .i64 (endV R.size E)) (f := ?_) (args := ?_) (by kernel_rfl) (by intro w' hC; (try dsimp only at hC); go_simp; first | (constructor <;> with_reducible rfl) | (with_reducible rfl)) (by intro w' hC; (try dsimp only at hC); exact (end_r b1 R E w' hC.r).mono (fun e wx ⟨h, hh⟩ => ⟨h, by rw [← hh]; exact hC⟩)) ?_
        try simp only [Act.put, List.setIfInBounds_toArray, List.set_cons_zero, List.set_cons_succ]
        iterate 1 (refine q_take (v := ?_) (by kernel_rfl) (by intro w' hC; (try dsimp only at hC); have e0 := hC.x.err; go_simp; try (with_reducible rfl)) ?_; try simp only [Act.put, List.setIfInBounds_toArray, List.set_cons_zero, List.set_cons_succ])
        refine q_call (v := .int .i64 (endV R.size E)) (f := ?_) (args := ?_) (by kernel_rfl) (by intro w' hC; (try dsimp only at hC); go_simp; first | (constructor <;> with_reducible rfl) | (with_reducible rfl)) (by intro w' hC; (try dsimp only at hC); exact (rend_c bx s a' E w' hC.x).mono (fun e wx ⟨h, hh⟩ => ⟨by rw [h, hC.left], hC.below hh⟩)) ?_
        try simp only [Act.put, List.setIfInBounds_toArray, List.set_cons_zero, List.set_cons_succ]
        iterate 2 (refine q_take (v := ?_) (by kernel_rfl) (by intro w' hC; (try dsimp only at hC); have e0 := hC.x.err; go_simp; try (with_reducible rfl)) ?_; try simp only [Act.put, List.setIfInBounds_toArray, List.set_cons_zero, List.set_cons_succ])
        refine q_done ?_
        intro w9 hC9
        have H9 := Lib.hid hC9
        clear hC9
        go_wp2_with fail
        go_roundw
        case rel => exact ⟨k + 1, by omega, by go_num, ⟨R, a', E, H9.out⟩⟩
        case measure => simp [intOf]; omega
      · have HT1 := Lib.hid (HT.out.below (by exact (Below.refl _ wr).drew))
        have hz0 := bel_at (by exact (Below.refl _ wr).drew) r1
        have C1 := Lib.hid (fun w => text_any b1 rest c z w)
        have C2 := Lib.hid (fun w h => rftext_any bx s rest a c z w h HT1.out.ok HSZ.out)
        have HER := Lib.hid (stepT_err rest c z HT1.out.er)
        have HB1 := Lib.hid (show some b ≠ some b1 by have := HT1.out.n1; have := HLT.out; simp; omega)
        have HBX := Lib.hid (show some b ≠ some bx by have := HT1.out.n2; have := HLT.out; simp; omega)
        have HNE := Lib.hid (show some bx ≠ some b1 by have := HT1.out.ne; simp; omega)
        generalize stepT rest c z = o at C1 C2 HER
        obtain ⟨o1, R, E⟩ := o
        go_region_held3 (fun w' => w'.cell? ⟨b, off + k * 3 + 1, none⟩ = some (.int .i64 z))
          ((first | (go_keep; done) | exact hk2 | exact hk1))
          (first | (go_at_call 27; refine (C1.out _ HT1.out.r).mono ?_; rintro e w3 ⟨rfl, hr3, hg3⟩; have hk1 := grown_at hg3 hz0 HB1.out) | (go_at_call 28; refine (C2.out _ (HT1.out.x.grown hg3 HNE.out)).mono ?_; rintro e w4 ⟨rfl, ⟨a', hx4, ho4⟩, hg4⟩; have hk2 := grown_at hg4 hk1 HBX.out))
        have HT2 : Hid (Tk w w4 b1 bx s R a' E) := HT1.out.num (o := (R, E)) hg3 hg4 hr3 hx4 ho4 HER.out
        clear hr3 hg3 hg4 hx4 ho4 hk1 hk2
        go_wp2_with fail
        refine wp_region_q (fun wx => Tk w wx b1 bx s R a' E) (by kernel_rfl) (by kernel_rfl) (HT2.out.below (by exact (Below.refl _ _).drew)) ?_
        iterate 1 (refine q_take (v := ?_) (by kernel_rfl) (by intro w' hC; (try dsimp only at hC); have e0 := hC.x.err; go_simp; try (with_reducible rfl)) ?_; try simp only [Act.put, List.setIfInBounds_toArray, List.set_cons_zero, List.set_cons_succ])
        refine q_call (v := .int .i64 (R.size : Int)) (f := ?_) (args := ?_) (by kernel_rfl) (by intro w' hC; (try dsimp only at hC); go_simp; first | (constructor <;> with_reducible rfl) | (with_reducible rfl)) (by intro w' hC; (try dsimp only at hC); exact (left_r b1 R E w' hC.r).mono (fun e wx ⟨h, hh⟩ => ⟨h, by rw [← hh]; exact hC⟩)) ?_
        try simp only [Act.put, List.setIfInBounds_toArray, List.set_cons_zero, List.set_cons_succ]
        iterate 1 (refine q_take (v := ?_) (by kernel_rfl) (by intro w' hC; (try dsimp only at hC); have e0 := hC.x.err; go_simp; try (with_reducible rfl)) ?_; try simp only [Act.put, List.setIfInBounds_toArray, List.set_cons_zero, List.set_cons_succ])
        refine q_call (v := .int .i64 (R.size : Int)) (f := ?_) (args := ?_) (by kernel_rfl) (by intro w' hC; (try dsimp only at hC); go_simp; first | (constructor <;> with_reducible rfl) | (with_reducible rfl)) (by intro w' hC; (try dsimp only at hC); exact (rleft_c bx s a' E w' hC.x (Nat.le_trans HSZ.out (by decide))).mono (fun e wx ⟨h, hh⟩ => ⟨by rw [h, hC.left], hC.below hh⟩)) ?_
        try simp only [Act.put, List.setIfInBounds_toArray, List.set_cons_zero, List.set_cons_succ]
        iterate 3 (refine q_take (v := ?_) (by kernel_rfl) (by intro w' hC; (try dsimp only at hC); have e0 := hC.x.err; go_simp; try (with_reducible rfl)) ?_; try simp only [Act.put, List.setIfInBounds_toArray, List.set_cons_zero, List.set_cons_succ])
        refine q_call (v := .int .i64 E) (f := ?_) (args := ?_) (by kernel_rfl) (by intro w' hC; (try dsimp only at hC); go_simp; first | (constructor <;> with_reducible rfl) | (with_reducible rfl)) (by intro w' hC; (try dsimp only at hC); exact (err_r b1 R E w' hC.r).mono (fun e wx ⟨h, hh⟩ => ⟨h, by rw [← hh]; exact hC⟩)) ?_
        try simp only [Act.put, List.setIfInBounds_toArray, List.set_cons_zero, List.set_cons_succ]
        iterate 8 (refine q_take (v := ?_) (by kernel_rfl) (by intro w' hC; (try dsimp only at hC); have e0 := hC.x.err; go_simp; try (with_reducible rfl)) ?_; try simp only [Act.put, List.setIfInBounds_toArray, List.set_cons_zero, List.set_cons_succ])
        refine q_call (v := .int .i64 (endV R.size E)) (f := ?_) (args := ?_) (by kernel_rfl) (by intro w' hC; (try dsimp only at hC); go_simp; first | (constructor <;> with_reducible rfl) | (with_reducible rfl)) (by intro w' hC; (try dsimp only at hC); exact (end_r b1 R E w' hC.r).mono (fun e wx ⟨h, hh⟩ => ⟨h, by rw [← hh]; exact hC⟩)) ?_
        try simp only [Act.put, List.setIfInBounds_toArray, List.set_cons_zero, List.set_cons_succ]
        iterate 1 (refine q_take (v := ?_) (by kernel_rfl) (by intro w' hC; (try dsimp only at hC); have e0 := hC.x.err; go_simp; try (with_reducible rfl)) ?_; try simp only [Act.put, List.setIfInBounds_toArray, List.set_cons_zero, List.set_cons_succ])
        refine q_call (v := .int .i64 (endV R.size E)) (f := ?_) (args := ?_) (by kernel_rfl) (by intro w' hC; (try dsimp only at hC); go_simp; first | (constructor <;> with_reducible rfl) | (with_reducible rfl)) (by intro w' hC; (try dsimp only at hC); exact (rend_c bx s a' E w' hC.x).mono (fun e wx ⟨h, hh⟩ => ⟨by rw [h, hC.left], hC.below hh⟩)) ?_
        try simp only [Act.put, List.setIfInBounds_toArray, List.set_cons_zero, List.set_cons_succ]
        iterate 2 (refine q_take (v := ?_) (by kernel_rfl) (by intro w' hC; (try dsimp only at hC); have e0 := hC.x.err; go_simp; try (with_reducible rfl)) ?_; try simp only [Act.put, List.setIfInBounds_toArray, List.set_cons_zero, List.set_cons_succ])
        refine q_done ?_
        intro w9 hC9
        have H9 := Lib.hid hC9
        clear hC9
        go_wp2_with fail
        go_roundw
        case rel => exact ⟨k + 1, by omega, by go_num, ⟨R, a', E, H9.out⟩⟩
        case measure => simp [intOf]; omega
      · obtain ⟨R, hR⟩ : ∃ R, R = rest := ⟨_, rfl⟩
        obtain ⟨a', ha'⟩ : ∃ a', a' = a := ⟨_, rfl⟩
        obtain ⟨E, hE⟩ : ∃ E, E = c := ⟨_, rfl⟩
        have HT2 : Hid (Tk w wr b1 bx s R a' E) := by rw [hR, ha', hE]; exact HT
        clear hR ha' hE
        refine wp_region_q (fun wx => Tk w wx b1 bx s R a' E) (by kernel_rfl) (by kernel_rfl) (HT2.out.below (by exact (Below.refl _ _).drew)) ?_
        iterate 1 (refine q_take (v := ?_) (by kernel_rfl) (by intro w' hC; (try dsimp only at hC); have e0 := hC.x.err; go_simp; try (with_reducible rfl)) ?_; try simp only [Act.put, List.setIfInBounds_toArray, List.set_cons_zero, List.set_cons_succ])
        refine q_call (v := .int .i64 (R.size : Int)) (f := ?_) (args := ?_) (by kernel_rfl) (by intro w' hC; (try dsimp only at hC); go_simp; first | (constructor <;> with_reducible rfl) | (with_reducible rfl)) (by intro w' hC; (try dsimp only at hC); exact (left_r b1 R E w' hC.r).mono (fun e wx ⟨h, hh⟩ => ⟨h, by rw [← hh]; exact hC⟩)) ?_
        try simp only [Act.put, List.setIfInBounds_toArray, List.set_cons_zero, List.set_cons_succ]
        iterate 1 (refine q_take (v := ?_) (by kernel_rfl) (by intro w' hC; (try dsimp only at hC); have e0 := hC.x.err; go_simp; try (with_reducible rfl)) ?_; try simp only [Act.put, List.setIfInBounds_toArray, List.set_cons_zero, List.set_cons_succ])
        refine q_call (v := .int .i64 (R.size : Int)) (f := ?_) (args := ?_) (by kernel_rfl) (by intro w' hC; (try dsimp only at hC); go_simp; first | (constructor <;> with_reducible rfl) | (with_reducible rfl)) (by intro w' hC; (try dsimp only at hC); exact (rleft_c bx s a' E w' hC.x (Nat.le_trans HSZ.out (by decide))).mono (fun e wx ⟨h, hh⟩ => ⟨by rw [h, hC.left], hC.below hh⟩)) ?_
        try simp only [Act.put, List.setIfInBounds_toArray, List.set_cons_zero, List.set_cons_succ]
        iterate 3 (refine q_take (v := ?_) (by kernel_rfl) (by intro w' hC; (try dsimp only at hC); have e0 := hC.x.err; go_simp; try (with_reducible rfl)) ?_; try simp only [Act.put, List.setIfInBounds_toArray, List.set_cons_zero, List.set_cons_succ])
        refine q_call (v := .int .i64 E) (f := ?_) (args := ?_) (by kernel_rfl) (by intro w' hC; (try dsimp only at hC); go_simp; first | (constructor <;> with_reducible rfl) | (with_reducible rfl)) (by intro w' hC; (try dsimp only at hC); exact (err_r b1 R E w' hC.r).mono (fun e wx ⟨h, hh⟩ => ⟨h, by rw [← hh]; exact hC⟩)) ?_
        try simp only [Act.put, List.setIfInBounds_toArray, List.set_cons_zero, List.set_cons_succ]
        iterate 8 (refine q_take (v := ?_) (by kernel_rfl) (by intro w' hC; (try dsimp only at hC); have e0 := hC.x.err; go_simp; try (with_reducible rfl)) ?_; try simp only [Act.put, List.setIfInBounds_toArray, List.set_cons_zero, List.set_cons_succ])
        refine q_call (v := .int .i64 (endV R.size E)) (f := ?_) (args := ?_) (by kernel_rfl) (by intro w' hC; (try dsimp only at hC); go_simp; first | (constructor <;> with_reducible rfl) | (with_reducible rfl)) (by intro w' hC; (try dsimp only at hC); exact (end_r b1 R E w' hC.r).mono (fun e wx ⟨h, hh⟩ => ⟨h, by rw [← hh]; exact hC⟩)) ?_
        try simp only [Act.put, List.setIfInBounds_toArray, List.set_cons_zero, List.set_cons_succ]
        iterate 1 (refine q_take (v := ?_) (by kernel_rfl) (by intro w' hC; (try dsimp only at hC); have e0 := hC.x.err; go_simp; try (with_reducible rfl)) ?_; try simp only [Act.put, List.setIfInBounds_toArray, List.set_cons_zero, List.set_cons_succ])
        refine q_call (v := .int .i64 (endV R.size E)) (f := ?_) (args := ?_) (by kernel_rfl) (by intro w' hC; (try dsimp only at hC); go_simp; first | (constructor <;> with_reducible rfl) | (with_reducible rfl)) (by intro w' hC; (try dsimp only at hC); exact (rend_c bx s a' E w' hC.x).mono (fun e wx ⟨h, hh⟩ => ⟨by rw [h, hC.left], hC.below hh⟩)) ?_
        try simp only [Act.put, List.setIfInBounds_toArray, List.set_cons_zero, List.set_cons_succ]
        iterate 2 (refine q_take (v := ?_) (by kernel_rfl) (by intro w' hC; (try dsimp only at hC); have e0 := hC.x.err; go_simp; try (with_reducible rfl)) ?_; try simp only [Act.put, List.setIfInBounds_toArray, List.set_cons_zero, List.set_cons_succ])
        refine q_done ?_
        intro w9 hC9
        have H9 := Lib.hid hC9
        clear hC9
        go_wp2_with fail
        go_roundw
        case rel => exact ⟨k + 1, by omega, by go_num, ⟨R, a', E, H9.out⟩⟩
        case measure => simp [intOf]; omega
    · go_wp2_with fail
      refine (awake_c _).mono ?_
      rintro e w5 ⟨rfl, hb5⟩
      have H5 := Lib.hid (HT.out.below hb5)
      clear hb5
      go_wp2_with fail
      refine (end_r b1 rest c _ H5.out.r).mono ?_
      rintro e w6 ⟨rfl, rfl⟩
      go_wp2_with fail
      have HE := Lib.hid (rend_c bx s a c w5 H5.out.x)
      rw [H5.out.left] at HE
      refine HE.out.mono ?_
      rintro e w6 ⟨rfl, hb6⟩
      have H6 := Lib.hid (H5.out.below hb6)
      clear hb6
      go_wp2_with fail
      go_ret
      exact ⟨rfl, H6.out.bel⟩
end Go.Proofs.Ytbpkeeadfbobdaa
