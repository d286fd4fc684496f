/- The walk of the law XidCounts. -/
import Derived.Test.YtipnmdhifkckkaaXidJ
import Derived.Test.YtipnmdhifkckkaaQuiet
namespace Go.Proofs.Ytipnmdhifkckkaa
open Go.RowKit
set_option linter.unusedSimpArgs false
attribute [local irreducible] wpQuiet

/-- A list of calls lies in memory: what is asked, and with which number. -/
def OpsIn (w : World) (ao : Option Addr) (len : Nat) (A N : Nat → Int) : Prop :=
  ∀ i, i < len → ∃ b off, ao = some ⟨b, off, none⟩ ∧ w.cell? ⟨b, off + i * 2, none⟩ = some (.int .i64 (A i)) ∧ w.cell? ⟨b, off + i * 2 + 1, none⟩ = some (.int .i64 (N i))

theorem OpsIn.below {w w' : World} {ao : Option Addr} {len : Nat} {A N : Nat → Int} (h : OpsIn w ao len A N) (hb : Below w.heap.size w w') : OpsIn w' ao len A N := fun i hi => by
  obtain ⟨b, off, e, h1, h2⟩ := h i hi
  exact ⟨b, off, e, bel_at hb h1, bel_at hb h2⟩

/-- Both counters, what they hold, the boxed argument, the list of calls. -/
structure Cst (W wr : World) (b1 b2 : Nat) (m n f n2 f2 f0 : Int) (ao : Option Addr) (len cap : Nat) (A N : Nat → Int) : Prop where
  c : Ctr wr b1 m n f
  d : Ctr wr b2 m n2 f2
  x0 : wr.cell? ⟨W.heap.size, 0, none⟩ = some (.int .i64 f0)
  x1 : wr.cell? ⟨W.heap.size, 1, none⟩ = some (.slice ao len cap)
  ops : OpsIn W ao len A N
  bel : Below W.heap.size W wr
  ne : b1 ≠ b2
  n1 : W.heap.size < b1
  n2 : W.heap.size < b2

theorem Cst.below {W wr w' : World} {b1 b2 : Nat} {m n f n2 f2 f0 : Int} {ao : Option Addr} {len cap : Nat} {A N : Nat → Int} (h : Cst W wr b1 b2 m n f n2 f2 f0 ao len cap A N) (hb : Below wr.heap.size wr w') :
    Cst W w' b1 b2 m n f n2 f2 f0 ao len cap A N :=
  ⟨h.c.below hb, h.d.below hb, bel_at hb h.x0, bel_at hb h.x1, h.ops, h.bel.trans (hb.mono h.bel.size), h.ne, h.n1, h.n2⟩
theorem Cst.setC {W wr w' : World} {b1 b2 : Nat} {m n f n2 f2 f0 : Int} {ao : Option Addr} {len cap : Nat} {A N : Nat → Int} (h : Cst W wr b1 b2 m n f n2 f2 f0 ao len cap A N) {n' f' : Int} (hg : wr.grownBy w' (some b1)) (hc : Ctr w' b1 m n' f') :
    Cst W w' b1 b2 m n' f' n2 f2 f0 ao len cap A N :=
  ⟨hc, h.d.kept hg (by have := h.ne; simp; omega), grown_at hg h.x0 (by have := h.n1; simp; omega), grown_at hg h.x1 (by have := h.n1; simp; omega), h.ops,
    h.bel.grown hg h.bel.size (by rintro j hj; cases hj; have := h.n1; omega), h.ne, h.n1, h.n2⟩
theorem Cst.setD {W wr w' : World} {b1 b2 : Nat} {m n f n2 f2 f0 : Int} {ao : Option Addr} {len cap : Nat} {A N : Nat → Int} (h : Cst W wr b1 b2 m n f n2 f2 f0 ao len cap A N) {n' f' : Int} (hg : wr.grownBy w' (some b2)) (hc : Ctr w' b2 m n' f') :
    Cst W w' b1 b2 m n f n' f' f0 ao len cap A N :=
  ⟨h.c.kept hg (by have := h.ne; simp; omega), hc, grown_at hg h.x0 (by have := h.n2; simp; omega), grown_at hg h.x1 (by have := h.n2; simp; omega), h.ops,
    h.bel.grown hg h.bel.size (by rintro j hj; cases hj; have := h.n2; omega), h.ne, h.n1, h.n2⟩

set_option maxHeartbeats 1000000 in
theorem xidCounts_bad (m n f : Int) (sl : Value) (w : World) (h : okn m n f = false) :
    Calls Try.prog 7 #[.int .i64 m, .int .i64 n, .agg #[.int .i64 f, sl]] w fun e w' => e = .returned (.bool true) ∧ Below w.heap.size w w' := by
  go_enter Try.func7, Try.ntmps7
  go_wp2_with fail
  refine (new_no m n f _ h).mono ?_
  rintro e w1 ⟨rfl, hb1⟩
  have hx1 := bel_at (a := ⟨w.heap.size, 0, none⟩) (v := .int .i64 f) hb1 (by simp [go_sem])
  have hB1 := ((Below.refl w.heap.size w).alloc (Nat.le_refl _) (.cells #[.int .i64 f, sl] 39)).trans (hb1.mono (by simp))
  clear hb1
  go_wp2_with fail
  refine (rnew_no m n f _ h).mono ?_
  rintro e w2 ⟨rfl, rfl⟩
  go_wp2_with fail
  refine (awake_c _).mono ?_
  rintro e w3 ⟨rfl, hb3⟩
  go_wp2_with fail
  go_ret
  exact ⟨rfl, hB1.trans (hb3.mono hB1.size)⟩

set_option maxRecDepth 100000 in
set_option maxHeartbeats 4000000 in
theorem xidCounts_good (m n f : Int) (ao : Option Addr) (len cap : Nat) (A N : Nat → Int) (w : World) (hlen : len ≤ 9223372036854775807) (h : OkC m n f) (hops : OpsIn w ao len A N) :
    Calls Try.prog 7 #[.int .i64 m, .int .i64 n, .agg #[.int .i64 f, .slice ao len cap]] w fun e w' => e = .returned (.bool true) ∧ Below w.heap.size w w' := by
  have HOPS := Lib.hid hops
  have H := Lib.hid h
  clear h hops
  go_enter Try.func7, Try.ntmps7
  go_wp2_with fail
  refine (new_yes m n f _ H.out).mono ?_
  rintro e w1 ⟨b1, hbb1, rfl, hc1, hb1⟩
  have hx1 := bel_at (a := ⟨w.heap.size, 0, none⟩) (v := .int .i64 f) hb1 (by simp [go_sem])
  have hy1 := bel_at (a := ⟨w.heap.size, 1, none⟩) (v := .slice ao len cap) hb1 (by simp [go_sem])
  have hs1 := hb1.size
  simp at hbb1 hs1
  have hB1 := ((Below.refl w.heap.size w).alloc (Nat.le_refl _) (.cells #[.int .i64 f, .slice ao len cap] 39)).trans (hb1.mono (by simp))
  have HC1 := Lib.hid hc1
  clear hb1 hc1
  go_wp2_with fail
  refine (rnew_yes m n f _ H.out).mono ?_
  rintro e w2 ⟨b2, hbb2, rfl, hc2, hb2⟩
  have HS : Hid (Cst w w2 b1 b2 m n f n f f ao len cap A N) :=
    ⟨HC1.out.below hb2, hc2, bel_at hb2 hx1, bel_at hb2 hy1, HOPS.out, hB1.trans (hb2.mono hB1.size), by have := HC1.out.lt; omega, by omega, by have := HC1.out.lt; omega⟩
  clear hb2 hc2 hx1 hy1 hB1 hbb2 hs1 hbb1 HC1 HOPS
  go_wp2_with fail
  go_loopw [11] (fun i wr => ∃ k : Nat, k ≤ len ∧ i = .int .i64 k ∧ Hid (∃ n' f', Cst w wr b1 b2 m n' f' n' f' f ao len cap A N ∧ OkC m n' f')) (fun i _ => len - (intOf i).toNat)
  case atStart => exact ⟨0, Nat.zero_le _, rfl, ⟨n, f, HS.out, H.out⟩⟩
  case round =>
    obtain ⟨k, hk, rfl, HR⟩ := hrel
    obtain ⟨n', f', hS, hO⟩ := HR.out
    have HS' := Lib.hid hS
    have HO := Lib.hid hO
    have hx1 := hS.x1
    clear hS hO HR HS
    by_cases hlt : k < len
    · obtain ⟨b, off, hao, q0, q1⟩ := HS'.out.ops k hlt
      have r0 := (HS'.out.bel.cell (p := ⟨b, off + k * 2, none⟩) (World.block_lt_of_cell? w _ q0)).trans q0
      have r1 := (HS'.out.bel.cell (p := ⟨b, off + k * 2 + 1, none⟩) (World.block_lt_of_cell? w _ q1)).trans q1
      rw [hao] at hx1
      have HAO := Lib.hid hao
      rw [hao] at HS'
      clear hao q0 q1
      have HM : Hid (okm m = true) := (okn_bd HO.out).2.2.1
      generalize A k = q at r0
      generalize N k = z at r1
      have hcase : (q == 0) = true ∨ ((q == 0) = false ∧ (q == 1) = true) ∨ ((q == 0) = false ∧ (q == 1) = false ∧ (q == 2) = true) ∨ ((q == 0) = false ∧ (q == 1) = false ∧ (q == 2) = false) := by
        cases (q == 0) <;> cases (q == 1) <;> cases (q == 2) <;> simp
      rcases hcase with t0 | ⟨t0, t1⟩ | ⟨t0, t1, t2⟩ | ⟨t0, t1, t2⟩
      · go_wp2_with fail
        refine (take_c b1 m n' f' _ HS'.out.c HO.out).mono ?_
        rintro e w3 ⟨rfl, hc3, hg3⟩
        have H3 := Lib.hid (HS'.out.setC hg3 hc3)
        clear hc3 hg3
        go_wp2_with fail
        refine (rtake_c b2 m n' f' _ H3.out.d HO.out).mono ?_
        rintro e w4 ⟨rfl, hc4, hg4⟩
        have H4 := Lib.hid (H3.out.setD hg4 hc4)
        clear hc4 hg4
        go_wp2_with fail
        refine wp_region_q (fun wx => Cst w wx b1 b2 m (tkn m n' f') f' (tkn m n' f') f' f (some ⟨b, off, none⟩) len cap A N) (by kernel_rfl) (by kernel_rfl) (H4.out.below (by exact (Below.refl _ _).drew)) ?_
        iterate 1 (refine q_take (v := ?_) (by kernel_rfl) (by intro w' hC; (try dsimp only at hC); obtain ⟨e0, e1, e2, e3, e4⟩ := hC.d; go_simp; try (with_reducible rfl)) ?_; try simp only [Act.put, List.setIfInBounds_toArray, List.set_cons_zero, List.set_cons_succ])
        refine q_call (v := .int .i64 (tkn m n' f')) (f := ?_) (args := ?_) (by kernel_rfl) (by intro w' hC; (try dsimp only at hC); go_simp; first | (constructor <;> with_reducible rfl) | (with_reducible rfl)) (by intro w' hC; (try dsimp only at hC); exact (next_c b1 m _ _ w' hC.c).mono (fun e wx ⟨h, hh⟩ => ⟨h, by rw [← hh]; exact hC⟩)) ?_
        try simp only [Act.put, List.setIfInBounds_toArray, List.set_cons_zero, List.set_cons_succ]
        iterate 7 (refine q_take (v := ?_) (by kernel_rfl) (by intro w' hC; (try dsimp only at hC); obtain ⟨e0, e1, e2, e3, e4⟩ := hC.d; go_simp; try (with_reducible rfl)) ?_; try simp only [Act.put, List.setIfInBounds_toArray, List.set_cons_zero, List.set_cons_succ])
        refine q_call (v := .int .i64 f') (f := ?_) (args := ?_) (by kernel_rfl) (by intro w' hC; (try dsimp only at hC); go_simp; first | (constructor <;> with_reducible rfl) | (with_reducible rfl)) (by intro w' hC; (try dsimp only at hC); exact (frozen_c b1 m _ _ w' hC.c).mono (fun e wx ⟨h, hh⟩ => ⟨h, by rw [← hh]; exact hC⟩)) ?_
        try simp only [Act.put, List.setIfInBounds_toArray, List.set_cons_zero, List.set_cons_succ]
        iterate 8 (refine q_take (v := ?_) (by kernel_rfl) (by intro w' hC; (try dsimp only at hC); obtain ⟨e0, e1, e2, e3, e4⟩ := hC.d; go_simp; try (with_reducible rfl)) ?_; try simp only [Act.put, List.setIfInBounds_toArray, List.set_cons_zero, List.set_cons_succ])
        refine q_call (v := .int .i64 (xleft m (tkn m n' f') f')) (f := ?_) (args := ?_) (by kernel_rfl) (by intro w' hC; (try dsimp only at hC); go_simp; first | (constructor <;> with_reducible rfl) | (with_reducible rfl)) (by intro w' hC; (try dsimp only at hC); exact (left_c b1 m _ _ w' hC.c HM.out).mono (fun e wx ⟨h, hh⟩ => ⟨h, hC.below hh⟩)) ?_
        try simp only [Act.put, List.setIfInBounds_toArray, List.set_cons_zero, List.set_cons_succ]
        iterate 1 (refine q_take (v := ?_) (by kernel_rfl) (by intro w' hC; (try dsimp only at hC); obtain ⟨e0, e1, e2, e3, e4⟩ := hC.d; go_simp; try (with_reducible rfl)) ?_; try simp only [Act.put, List.setIfInBounds_toArray, List.set_cons_zero, List.set_cons_succ])
        refine q_call (v := .int .i64 (xleft m (tkn m n' f') f')) (f := ?_) (args := ?_) (by kernel_rfl) (by intro w' hC; (try dsimp only at hC); go_simp; first | (constructor <;> with_reducible rfl) | (with_reducible rfl)) (by intro w' hC; (try dsimp only at hC); exact (rleft_c b2 m _ _ w' hC.d HM.out).mono (fun e wx ⟨h, hh⟩ => ⟨h, hC.below hh⟩)) ?_
        try simp only [Act.put, List.setIfInBounds_toArray, List.set_cons_zero, List.set_cons_succ]
        iterate 2 (refine q_take (v := ?_) (by kernel_rfl) (by intro w' hC; (try dsimp only at hC); obtain ⟨e0, e1, e2, e3, e4⟩ := hC.d; go_simp; try (with_reducible rfl)) ?_; try simp only [Act.put, List.setIfInBounds_toArray, List.set_cons_zero, List.set_cons_succ])
        refine q_done ?_
        intro w9 hC9
        have H9 : Hid (Cst w w9 b1 b2 m (tkn m n' f') f' (tkn m n' f') f' f ao len cap A N) := by unfold Hid; rw [HAO.out]; exact hC9
        clear hC9
        go_wp2_with fail
        go_roundw
        case rel => exact ⟨k + 1, by omega, by go_num, ⟨(tkn m n' f'), f', H9.out, okc_take HO.out⟩⟩
        case measure => simp [intOf]; omega
      · go_wp2_with fail
        refine (freeze_c b1 m n' f' z _ HS'.out.c HO.out).mono ?_
        rintro e w3 ⟨rfl, hc3, hg3⟩
        have H3 := Lib.hid (HS'.out.setC hg3 hc3)
        clear hc3 hg3
        go_wp2_with fail
        refine (rfreeze_c b2 m n' f' z _ H3.out.d HO.out).mono ?_
        rintro e w4 ⟨rfl, hc4, hg4⟩
        have H4 := Lib.hid (H3.out.setD hg4 hc4)
        clear hc4 hg4
        go_wp2_with fail
        refine wp_region_q (fun wx => Cst w wx b1 b2 m n' (fzf m n' f' z) n' (fzf m n' f' z) f (some ⟨b, off, none⟩) len cap A N) (by kernel_rfl) (by kernel_rfl) (H4.out.below (by exact (Below.refl _ _).drew)) ?_
        iterate 1 (refine q_take (v := ?_) (by kernel_rfl) (by intro w' hC; (try dsimp only at hC); obtain ⟨e0, e1, e2, e3, e4⟩ := hC.d; go_simp; try (with_reducible rfl)) ?_; try simp only [Act.put, List.setIfInBounds_toArray, List.set_cons_zero, List.set_cons_succ])
        refine q_call (v := .int .i64 n') (f := ?_) (args := ?_) (by kernel_rfl) (by intro w' hC; (try dsimp only at hC); go_simp; first | (constructor <;> with_reducible rfl) | (with_reducible rfl)) (by intro w' hC; (try dsimp only at hC); exact (next_c b1 m _ _ w' hC.c).mono (fun e wx ⟨h, hh⟩ => ⟨h, by rw [← hh]; exact hC⟩)) ?_
        try simp only [Act.put, List.setIfInBounds_toArray, List.set_cons_zero, List.set_cons_succ]
        iterate 7 (refine q_take (v := ?_) (by kernel_rfl) (by intro w' hC; (try dsimp only at hC); obtain ⟨e0, e1, e2, e3, e4⟩ := hC.d; go_simp; try (with_reducible rfl)) ?_; try simp only [Act.put, List.setIfInBounds_toArray, List.set_cons_zero, List.set_cons_succ])
        refine q_call (v := .int .i64 (fzf m n' f' z)) (f := ?_) (args := ?_) (by kernel_rfl) (by intro w' hC; (try dsimp only at hC); go_simp; first | (constructor <;> with_reducible rfl) | (with_reducible rfl)) (by intro w' hC; (try dsimp only at hC); exact (frozen_c b1 m _ _ w' hC.c).mono (fun e wx ⟨h, hh⟩ => ⟨h, by rw [← hh]; exact hC⟩)) ?_
        try simp only [Act.put, List.setIfInBounds_toArray, List.set_cons_zero, List.set_cons_succ]
        iterate 8 (refine q_take (v := ?_) (by kernel_rfl) (by intro w' hC; (try dsimp only at hC); obtain ⟨e0, e1, e2, e3, e4⟩ := hC.d; go_simp; try (with_reducible rfl)) ?_; try simp only [Act.put, List.setIfInBounds_toArray, List.set_cons_zero, List.set_cons_succ])
        refine q_call (v := .int .i64 (xleft m n' (fzf m n' f' z))) (f := ?_) (args := ?_) (by kernel_rfl) (by intro w' hC; (try dsimp only at hC); go_simp; first | (constructor <;> with_reducible rfl) | (with_reducible rfl)) (by intro w' hC; (try dsimp only at hC); exact (left_c b1 m _ _ w' hC.c HM.out).mono (fun e wx ⟨h, hh⟩ => ⟨h, hC.below hh⟩)) ?_
        try simp only [Act.put, List.setIfInBounds_toArray, List.set_cons_zero, List.set_cons_succ]
        iterate 1 (refine q_take (v := ?_) (by kernel_rfl) (by intro w' hC; (try dsimp only at hC); obtain ⟨e0, e1, e2, e3, e4⟩ := hC.d; go_simp; try (with_reducible rfl)) ?_; try simp only [Act.put, List.setIfInBounds_toArray, List.set_cons_zero, List.set_cons_succ])
        refine q_call (v := .int .i64 (xleft m n' (fzf m n' f' z))) (f := ?_) (args := ?_) (by kernel_rfl) (by intro w' hC; (try dsimp only at hC); go_simp; first | (constructor <;> with_reducible rfl) | (with_reducible rfl)) (by intro w' hC; (try dsimp only at hC); exact (rleft_c b2 m _ _ w' hC.d HM.out).mono (fun e wx ⟨h, hh⟩ => ⟨h, hC.below hh⟩)) ?_
        try simp only [Act.put, List.setIfInBounds_toArray, List.set_cons_zero, List.set_cons_succ]
        iterate 2 (refine q_take (v := ?_) (by kernel_rfl) (by intro w' hC; (try dsimp only at hC); obtain ⟨e0, e1, e2, e3, e4⟩ := hC.d; go_simp; try (with_reducible rfl)) ?_; try simp only [Act.put, List.setIfInBounds_toArray, List.set_cons_zero, List.set_cons_succ])
        refine q_done ?_
        intro w9 hC9
        have H9 : Hid (Cst w w9 b1 b2 m n' (fzf m n' f' z) n' (fzf m n' f' z) f ao len cap A N) := by unfold Hid; rw [HAO.out]; exact hC9
        clear hC9
        go_wp2_with fail
        go_roundw
        case rel => exact ⟨k + 1, by omega, by go_num, ⟨n', (fzf m n' f' z), H9.out, okc_freeze HO.out⟩⟩
        case measure => simp [intOf]; omega
      · have hd := HS'.out.d.c2
        go_wp2_with fail
        refine (radd_c m f' z _).mono ?_
        rintro e w5 ⟨rfl, rfl⟩
        generalize xadd m f' z = z
        clear hd
        go_wp2_with fail
        refine (freeze_c b1 m n' f' z _ HS'.out.c HO.out).mono ?_
        rintro e w3 ⟨rfl, hc3, hg3⟩
        have H3 := Lib.hid (HS'.out.setC hg3 hc3)
        clear hc3 hg3
        go_wp2_with fail
        refine (rfreeze_c b2 m n' f' z _ H3.out.d HO.out).mono ?_
        rintro e w4 ⟨rfl, hc4, hg4⟩
        have H4 := Lib.hid (H3.out.setD hg4 hc4)
        clear hc4 hg4
        go_wp2_with fail
        refine wp_region_q (fun wx => Cst w wx b1 b2 m n' (fzf m n' f' z) n' (fzf m n' f' z) f (some ⟨b, off, none⟩) len cap A N) (by kernel_rfl) (by kernel_rfl) (H4.out.below (by exact (Below.refl _ _).drew)) ?_
        iterate 1 (refine q_take (v := ?_) (by kernel_rfl) (by intro w' hC; (try dsimp only at hC); obtain ⟨e0, e1, e2, e3, e4⟩ := hC.d; go_simp; try (with_reducible rfl)) ?_; try simp only [Act.put, List.setIfInBounds_toArray, List.set_cons_zero, List.set_cons_succ])
        refine q_call (v := .int .i64 n') (f := ?_) (args := ?_) (by kernel_rfl) (by intro w' hC; (try dsimp only at hC); go_simp; first | (constructor <;> with_reducible rfl) | (with_reducible rfl)) (by intro w' hC; (try dsimp only at hC); exact (next_c b1 m _ _ w' hC.c).mono (fun e wx ⟨h, hh⟩ => ⟨h, by rw [← hh]; exact hC⟩)) ?_
        try simp only [Act.put, List.setIfInBounds_toArray, List.set_cons_zero, List.set_cons_succ]
        iterate 7 (refine q_take (v := ?_) (by kernel_rfl) (by intro w' hC; (try dsimp only at hC); obtain ⟨e0, e1, e2, e3, e4⟩ := hC.d; go_simp; try (with_reducible rfl)) ?_; try simp only [Act.put, List.setIfInBounds_toArray, List.set_cons_zero, List.set_cons_succ])
        refine q_call (v := .int .i64 (fzf m n' f' z)) (f := ?_) (args := ?_) (by kernel_rfl) (by intro w' hC; (try dsimp only at hC); go_simp; first | (constructor <;> with_reducible rfl) | (with_reducible rfl)) (by intro w' hC; (try dsimp only at hC); exact (frozen_c b1 m _ _ w' hC.c).mono (fun e wx ⟨h, hh⟩ => ⟨h, by rw [← hh]; exact hC⟩)) ?_
        try simp only [Act.put, List.setIfInBounds_toArray, List.set_cons_zero, List.set_cons_succ]
        iterate 8 (refine q_take (v := ?_) (by kernel_rfl) (by intro w' hC; (try dsimp only at hC); obtain ⟨e0, e1, e2, e3, e4⟩ := hC.d; go_simp; try (with_reducible rfl)) ?_; try simp only [Act.put, List.setIfInBounds_toArray, List.set_cons_zero, List.set_cons_succ])
        refine q_call (v := .int .i64 (xleft m n' (fzf m n' f' z))) (f := ?_) (args := ?_) (by kernel_rfl) (by intro w' hC; (try dsimp only at hC); go_simp; first | (constructor <;> with_reducible rfl) | (with_reducible rfl)) (by intro w' hC; (try dsimp only at hC); exact (left_c b1 m _ _ w' hC.c HM.out).mono (fun e wx ⟨h, hh⟩ => ⟨h, hC.below hh⟩)) ?_
        try simp only [Act.put, List.setIfInBounds_toArray, List.set_cons_zero, List.set_cons_succ]
        iterate 1 (refine q_take (v := ?_) (by kernel_rfl) (by intro w' hC; (try dsimp only at hC); obtain ⟨e0, e1, e2, e3, e4⟩ := hC.d; go_simp; try (with_reducible rfl)) ?_; try simp only [Act.put, List.setIfInBounds_toArray, List.set_cons_zero, List.set_cons_succ])
        refine q_call (v := .int .i64 (xleft m n' (fzf m n' f' z))) (f := ?_) (args := ?_) (by kernel_rfl) (by intro w' hC; (try dsimp only at hC); go_simp; first | (constructor <;> with_reducible rfl) | (with_reducible rfl)) (by intro w' hC; (try dsimp only at hC); exact (rleft_c b2 m _ _ w' hC.d HM.out).mono (fun e wx ⟨h, hh⟩ => ⟨h, hC.below hh⟩)) ?_
        try simp only [Act.put, List.setIfInBounds_toArray, List.set_cons_zero, List.set_cons_succ]
        iterate 2 (refine q_take (v := ?_) (by kernel_rfl) (by intro w' hC; (try dsimp only at hC); obtain ⟨e0, e1, e2, e3, e4⟩ := hC.d; go_simp; try (with_reducible rfl)) ?_; try simp only [Act.put, List.setIfInBounds_toArray, List.set_cons_zero, List.set_cons_succ])
        refine q_done ?_
        intro w9 hC9
        have H9 : Hid (Cst w w9 b1 b2 m n' (fzf m n' f' z) n' (fzf m n' f' z) f ao len cap A N) := by unfold Hid; rw [HAO.out]; exact hC9
        clear hC9
        go_wp2_with fail
        go_roundw
        case rel => exact ⟨k + 1, by omega, by go_num, ⟨n', (fzf m n' f' z), H9.out, okc_freeze HO.out⟩⟩
        case measure => simp [intOf]; omega
      · go_wp2_with fail
        refine wp_region_q (fun wx => Cst w wx b1 b2 m n' f' n' f' f (some ⟨b, off, none⟩) len cap A N) (by kernel_rfl) (by kernel_rfl) (HS'.out.below (by exact (Below.refl _ _).drew)) ?_
        iterate 1 (refine q_take (v := ?_) (by kernel_rfl) (by intro w' hC; (try dsimp only at hC); obtain ⟨e0, e1, e2, e3, e4⟩ := hC.d; go_simp; try (with_reducible rfl)) ?_; try simp only [Act.put, List.setIfInBounds_toArray, List.set_cons_zero, List.set_cons_succ])
        refine q_call (v := .int .i64 n') (f := ?_) (args := ?_) (by kernel_rfl) (by intro w' hC; (try dsimp only at hC); go_simp; first | (constructor <;> with_reducible rfl) | (with_reducible rfl)) (by intro w' hC; (try dsimp only at hC); exact (next_c b1 m _ _ w' hC.c).mono (fun e wx ⟨h, hh⟩ => ⟨h, by rw [← hh]; exact hC⟩)) ?_
        try simp only [Act.put, List.setIfInBounds_toArray, List.set_cons_zero, List.set_cons_succ]
        iterate 7 (refine q_take (v := ?_) (by kernel_rfl) (by intro w' hC; (try dsimp only at hC); obtain ⟨e0, e1, e2, e3, e4⟩ := hC.d; go_simp; try (with_reducible rfl)) ?_; try simp only [Act.put, List.setIfInBounds_toArray, List.set_cons_zero, List.set_cons_succ])
        refine q_call (v := .int .i64 f') (f := ?_) (args := ?_) (by kernel_rfl) (by intro w' hC; (try dsimp only at hC); go_simp; first | (constructor <;> with_reducible rfl) | (with_reducible rfl)) (by intro w' hC; (try dsimp only at hC); exact (frozen_c b1 m _ _ w' hC.c).mono (fun e wx ⟨h, hh⟩ => ⟨h, by rw [← hh]; exact hC⟩)) ?_
        try simp only [Act.put, List.setIfInBounds_toArray, List.set_cons_zero, List.set_cons_succ]
        iterate 8 (refine q_take (v := ?_) (by kernel_rfl) (by intro w' hC; (try dsimp only at hC); obtain ⟨e0, e1, e2, e3, e4⟩ := hC.d; go_simp; try (with_reducible rfl)) ?_; try simp only [Act.put, List.setIfInBounds_toArray, List.set_cons_zero, List.set_cons_succ])
        refine q_call (v := .int .i64 (xleft m n' f')) (f := ?_) (args := ?_) (by kernel_rfl) (by intro w' hC; (try dsimp only at hC); go_simp; first | (constructor <;> with_reducible rfl) | (with_reducible rfl)) (by intro w' hC; (try dsimp only at hC); exact (left_c b1 m _ _ w' hC.c HM.out).mono (fun e wx ⟨h, hh⟩ => ⟨h, hC.below hh⟩)) ?_
        try simp only [Act.put, List.setIfInBounds_toArray, List.set_cons_zero, List.set_cons_succ]
        iterate 1 (refine q_take (v := ?_) (by kernel_rfl) (by intro w' hC; (try dsimp only at hC); obtain ⟨e0, e1, e2, e3, e4⟩ := hC.d; go_simp; try (with_reducible rfl)) ?_; try simp only [Act.put, List.setIfInBounds_toArray, List.set_cons_zero, List.set_cons_succ])
        refine q_call (v := .int .i64 (xleft m n' f')) (f := ?_) (args := ?_) (by kernel_rfl) (by intro w' hC; (try dsimp only at hC); go_simp; first | (constructor <;> with_reducible rfl) | (with_reducible rfl)) (by intro w' hC; (try dsimp only at hC); exact (rleft_c b2 m _ _ w' hC.d HM.out).mono (fun e wx ⟨h, hh⟩ => ⟨h, hC.below hh⟩)) ?_
        try simp only [Act.put, List.setIfInBounds_toArray, List.set_cons_zero, List.set_cons_succ]
        iterate 2 (refine q_take (v := ?_) (by kernel_rfl) (by intro w' hC; (try dsimp only at hC); obtain ⟨e0, e1, e2, e3, e4⟩ := hC.d; go_simp; try (with_reducible rfl)) ?_; try simp only [Act.put, List.setIfInBounds_toArray, List.set_cons_zero, List.set_cons_succ])
        refine q_done ?_
        intro w9 hC9
        have H9 : Hid (Cst w w9 b1 b2 m n' f' n' f' f ao len cap A N) := by unfold Hid; rw [HAO.out]; exact hC9
        clear hC9
        go_wp2_with fail
        go_roundw
        case rel => exact ⟨k + 1, by omega, by go_num, ⟨n', f', H9.out, HO.out⟩⟩
        case measure => simp [intOf]; omega
    · go_wp2_with fail
      refine (awake_c _).mono ?_
      rintro e w3 ⟨rfl, hb3⟩
      have hB := (HS'.out.below hb3).bel
      go_wp2_with fail
      go_ret
      exact ⟨rfl, hB⟩

theorem xidCounts_w (m n f : Int) (ao : Option Addr) (len cap : Nat) (A N : Nat → Int) (w : World) (hlen : len ≤ 9223372036854775807) (hops : OpsIn w ao len A N) :
    Calls Try.prog 7 #[.int .i64 m, .int .i64 n, .agg #[.int .i64 f, .slice ao len cap]] w fun e w' => e = .returned (.bool true) ∧ Below w.heap.size w w' := by
  by_cases h : okn m n f = true
  · exact xidCounts_good m n f ao len cap A N w hlen h hops
  · exact xidCounts_bad m n f _ w (by simpa using h)
end Go.Proofs.Ytipnmdhifkckkaa
