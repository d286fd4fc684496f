/- Checks: layouts; the begin of a restart. -/
import Derived.Test.YtbhiijjnobcmoaaCkA
namespace Go.Proofs.Ytbhiijjnobcmoaa
open Go.RowKit
set_option linter.unusedSimpArgs false
set_option maxRecDepth 100000

theorem wpList_st_row {P : Program} {ops : Array Oper} {rest : List Oper} {o : Oper} {a : Act} {w : World} {Q : Exit → Act → World → Prop} (hgd : o.guard = none) (ty : TypeId) (x y : Operand) (ho : o.op = .store ty x y)
    (b : Nat) (hx : a.eval x = .pointer (some ⟨b, 0, none⟩)) (cells : Array Value) (hy : a.eval y = .agg cells) {old : Array Value} (H : w.heap[b]? = some (.cells old ty (0, 0))) (hi : (P.info? ty).map (·.size) = some cells.size) (hold : old.size = cells.size) (h1 : cells.all (·.oneCell') = true)
    (h : ∀ w', w'.heap[b]? = some (.cells cells ty (0, 0)) → w.grownBy w' (some b) → wpList P ops Q rest (a.put o.dst undef) w') : wpList P ops Q (o :: rest) a w :=
  wpList_store_row hgd ty x y ho b cells hx hy ty old H hi hold h1 (h _ (setRow_heap w b _ _ _ _ H) ⟨rfl, rfl, rfl, by rw [setRow_size]; exact Nat.le_refl _, fun k _ hk => setRow_other w b k _ (fun e => hk (by rw [e]))⟩)
theorem ret_cell {P : Program} {fn : Func} {R : Ending → World → Prop} {a : Act} {w : World} {p u : Tmp} {ty : TypeId} (h : fn.results = #[.cell p ty, .tmp u]) (g : Nat) (t : TypeId) (cs : Array Value) (fr : Nat × Nat) (d : TypeDesc)
    (hp : a.tmps.getD p undef = .pointer (some ⟨g, 0, none⟩)) (hg : w.heap[g]? = some (.cells cs t fr))
    (hu : P.underlying ty = some d) (hd : (match d with | .struct _ | .array _ _ => true | _ => false) = true) (hi : (P.info? ty).map (·.size) = some cs.size)
    (hdef : a.defers = []) (hR : R (.returned (.tuple #[.agg cs, a.tmps.getD u undef])) w) : bodyPost P fn R .ret a w := by
  refine bodyPost_ret_by ?_ hdef hR
  rw [results_cell_tmp h, hp]
  simp [asAddr, run_loadVar_row w g t ty cs fr d hg hu hd hi, Result.andThen]
theorem ret_cell1 {P : Program} {fn : Func} {R : Ending → World → Prop} {a : Act} {w : World} {p : Tmp} {ty : TypeId} (h : fn.results = #[.cell p ty]) (g : Nat) (t : TypeId) (cs : Array Value) (fr : Nat × Nat) (d : TypeDesc)
    (hp : a.tmps.getD p undef = .pointer (some ⟨g, 0, none⟩)) (hg : w.heap[g]? = some (.cells cs t fr))
    (hu : P.underlying ty = some d) (hd : (match d with | .struct _ | .array _ _ => true | _ => false) = true) (hi : (P.info? ty).map (·.size) = some cs.size)
    (hdef : a.defers = []) (hR : R (.returned (.agg cs)) w) : bodyPost P fn R .ret a w :=
  bodyPost_ret_by (results_cell_row h _ w g t cs fr d hp hg hu hd hi) hdef hR
theorem below_own {W w w' : World} {b : Nat} (h : Below W.heap.size W w) (hb : W.heap.size ≤ b) (hg : w.grownBy w' (some b)) : Below W.heap.size W w' :=
  h.grown hg h.size (by rintro j hj; cases hj; exact hb)
theorem row_lt {w : World} {b : Nat} {o : Obj} (h : w.heap[b]? = some o) : b < w.heap.size := (Array.getElem?_eq_some_iff.1 h).1

theorem okCfg_bd {a b c d : Int} (h : okCfg a b c d = true) : (4 ≤ a ∧ a ≤ 64) ∧ (16 ≤ b ∧ b ≤ 1024) ∧ (160 ≤ c ∧ c ≤ 4096) ∧ (4 ≤ d ∧ d ≤ 4096) := by
  unfold okCfg inB at h
  simp only [Bool.and_eq_true, decide_eq_true_eq] at h
  omega
/-- A layout. -/
def layV (a b c d : Int) : Value := if okCfg a b c d = true then .tuple #[.agg #[.int .i64 2, .int .i64 (2 + c), .int .i64 (2 + c + 8 * d)], .int .i64 0] else .tuple #[.agg #[.int .i64 0, .int .i64 0, .int .i64 0], .int .i64 1]

set_option maxHeartbeats 2000000 in
theorem layout_c (a b c d : Int) (w : World) :
    Calls Try.prog 9 #[.agg #[.int .i64 a, .int .i64 b, .int .i64 c, .int .i64 d]] w fun e w' => e = .returned (layV a b c d) ∧ Below w.heap.size w w' := by
  obtain ⟨wb, hwb⟩ : ∃ wb, wb = w.alloc (.cells #[.int .i64 a, .int .i64 b, .int .i64 c, .int .i64 d] 23) := ⟨_, rfl⟩
  obtain ⟨wc, hwc⟩ : ∃ wc, wc = wb.alloc (.cells #[.int .i64 0, .int .i64 0, .int .i64 0] 31) := ⟨_, rfl⟩
  obtain ⟨bb, hbb⟩ : ∃ bb, bb = w.heap.size := ⟨_, rfl⟩
  obtain ⟨br, hbr⟩ : ∃ br, br = w.heap.size + 1 := ⟨_, rfl⟩
  have e2 : br = wb.heap.size := by rw [hbr, hwb]; simp
  have q1 : Below w.heap.size w wb := by rw [hwb]; exact (Below.refl _ w).alloc (Nat.le_refl _) _
  have q2 : Below wb.heap.size wb wc := by rw [hwc]; exact (Below.refl _ wb).alloc (Nat.le_refl _) _
  have q3 : wb.heap[bb]? = some (.cells #[.int .i64 a, .int .i64 b, .int .i64 c, .int .i64 d] 23 (0, 0)) := by rw [hwb, hbb]; exact heap_alloc_new w _
  have HC : Hid (wc.heap[bb]? = some (.cells #[.int .i64 a, .int .i64 b, .int .i64 c, .int .i64 d] 23 (0, 0))) := (q2.block bb (row_lt q3)).trans q3
  have HR : Hid (wc.heap[br]? = some (.cells #[.int .i64 0, .int .i64 0, .int .i64 0] 31 (0, 0))) := by rw [hwc, e2]; exact heap_alloc_new wb _
  have HB : Hid (Below w.heap.size w wc) := q1.trans (q2.mono q1.size)
  have HN : Hid (w.heap.size ≤ br) := by unfold Hid; omega
  have HWB := Lib.hid hwb
  have HWC := Lib.hid hwc
  have HBB := Lib.hid hbb
  have HBR := Lib.hid hbr
  clear hwb hwc hbb hbr e2 q1 q2 q3
  go_enter Try.func9, Try.ntmps9
  have k0 : wc.cell? ⟨bb, 0, none⟩ = some (.int .i64 a) := by simp only [World.cell?, HC.out]; rfl
  have k1 : wc.cell? ⟨bb, 1, none⟩ = some (.int .i64 b) := by simp only [World.cell?, HC.out]; rfl
  have k2 : wc.cell? ⟨bb, 2, none⟩ = some (.int .i64 c) := by simp only [World.cell?, HC.out]; rfl
  have k3 : wc.cell? ⟨bb, 3, none⟩ = some (.int .i64 d) := by simp only [World.cell?, HC.out]; rfl
  rw [HWC.out, HWB.out, HBB.out] at k0 k1 k2 k3
  go_wp2_with fail
  clear k0 k1 k2 k3
  rw [← HWB.out, ← HWC.out, ← HBR.out, ← HBB.out]
  clear HWB HWC HBB HBR
  refine (sound_c a b c d wc).mono ?_
  rintro e w1 ⟨rfl, hb1⟩
  have B1 := Lib.hid (HB.out.trans (hb1.mono HB.out.size))
  have C1 := Lib.hid ((hb1.block bb (row_lt HC.out)).trans HC.out)
  have R1 := Lib.hid ((hb1.block br (row_lt HR.out)).trans HR.out)
  clear hb1 HB HC HR
  cases hok : okCfg a b c d
  · have HV : Hid (layV a b c d = .tuple #[.agg #[.int .i64 0, .int .i64 0, .int .i64 0], .int .i64 1]) := by unfold Hid layV; rw [hok]; rfl
    have hr := R1.out
    go_wp2_with (refine wpList_st_row rfl 31 _ _ rfl br rfl _ rfl hr (by kernel_rfl) rfl (by simp [Value.oneCell']) (fun w2 hp2 hg2 => ?_); have P2 := Lib.hid hp2; have B2 := Lib.hid (below_own B1.out HN.out hg2); clear hp2 hg2)
    refine ret_cell rfl br _ _ _ _ rfl P2.out Try.underlying31 rfl (by kernel_rfl) rfl ?_
    rw [HV.out]
    exact ⟨rfl, B2.out⟩
  · have HV : Hid (layV a b c d = .tuple #[.agg #[.int .i64 2, .int .i64 (2 + c), .int .i64 (2 + c + 8 * d)], .int .i64 0]) := by unfold Hid layV; rw [if_pos hok]
    obtain ⟨_, _, hc1, hd1⟩ := okCfg_bd hok
    have k2 : w1.cell? ⟨bb, 2, none⟩ = some (.int .i64 c) := by simp only [World.cell?, C1.out]; rfl
    have HNE : Hid (br < w1.heap.size ∧ bb < w1.heap.size) := ⟨row_lt R1.out, row_lt C1.out⟩
    clear hok
    have hnew : (w1.alloc (.cells #[.int .i64 0, .int .i64 0, .int .i64 0] 31)).heap[w1.heap.size]? = some (.cells #[.int .i64 0, .int .i64 0, .int .i64 0] 31 (0, 0)) := heap_alloc_new w1 _
    go_wp2_with (first
      | (refine wpList_st_row rfl 31 _ _ rfl w1.heap.size rfl _ rfl hnew (by kernel_rfl) rfl (by simp [Value.oneCell']) (fun w2 hp2 hg2 => ?_); have hb2 : Below w1.heap.size w1 w2 := (by exact below_own (W := w1) ((Below.refl _ w1).alloc (Nat.le_refl _) _) (Nat.le_refl _) hg2); have P2 := Lib.hid hp2; have B2 := Lib.hid (B1.out.trans (hb2.mono B1.out.size)); have R2 := Lib.hid ((hb2.block br (row_lt R1.out)).trans R1.out); have m1 : w2.cell? ⟨w1.heap.size, 0, none⟩ = some (.int .i64 2) := (by simp only [World.cell?, P2.out]; rfl); have m2 : w2.cell? ⟨w1.heap.size, 1, none⟩ = some (.int .i64 (2 + c)) := (by simp only [World.cell?, P2.out]; rfl); have m3 : w2.cell? ⟨w1.heap.size, 2, none⟩ = some (.int .i64 0) := (by simp only [World.cell?, P2.out]; rfl); have m4 : w2.frozen? ⟨w1.heap.size, 2, none⟩ = false := (by exact frozen_of_row w2 _ 2 _ _ P2.out); have k3 : w2.cell? ⟨bb, 3, none⟩ = some (.int .i64 d) := (by simp only [World.cell?, (hb2.block bb (row_lt C1.out)).trans C1.out]; rfl); clear hp2 hg2 k2 hnew hb2)
      | (refine wpList_st_row rfl 31 _ _ rfl br rfl _ rfl (((grown_set w2 w1.heap.size 2 _).block br (row_lt R2.out) (by have := HNE.out; simp; omega)).trans R2.out) (by kernel_rfl) rfl (by simp [Value.oneCell']) (fun w4 hp4 hg4 => ?_); have P4 := Lib.hid hp4; have B4 := Lib.hid (below_own (below_own B2.out B1.out.size (grown_set w2 w1.heap.size 2 _)) HN.out hg4); clear hp4 hg4))
    refine ret_cell rfl br _ _ _ _ rfl P4.out Try.underlying31 rfl (by kernel_rfl) rfl ?_
    rw [HV.out]
    exact ⟨rfl, B4.out⟩

theorem small_c (w : World) : Calls Try.prog 27 #[] w fun e w' => e = .returned (.agg #[.int .i64 4, .int .i64 16, .int .i64 160, .int .i64 4]) ∧ Below w.heap.size w w' := by
  go_enter Try.func27, Try.ntmps27
  have hnew : (w.alloc (.cells #[.int .i64 0, .int .i64 0, .int .i64 0, .int .i64 0] 23)).heap[w.heap.size]? = some (.cells #[.int .i64 0, .int .i64 0, .int .i64 0, .int .i64 0] 23 (0, 0)) := heap_alloc_new w _
  go_wp2_with (refine wpList_st_row rfl 23 _ _ rfl w.heap.size rfl _ rfl hnew (by kernel_rfl) rfl (by simp [Value.oneCell']) (fun w2 hp2 hg2 => ?_))
  refine ret_cell1 rfl w.heap.size _ _ _ _ rfl hp2 Try.underlying23 rfl (by kernel_rfl) rfl ?_
  exact ⟨rfl, below_own (W := w) ((Below.refl _ w).alloc (Nat.le_refl _) _) (Nat.le_refl _) hg2⟩
end Go.Proofs.Ytbhiijjnobcmoaa
