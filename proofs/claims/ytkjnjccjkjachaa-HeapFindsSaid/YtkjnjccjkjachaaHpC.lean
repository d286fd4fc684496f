/- Pages with another item, or one more: their error. -/
import Derived.Test.YtkjnjccjkjachaaHpB
import Derived.Test.YtkjnjccjkjachaaQuiet
import Derived.Deep.DeepCutAuto
import Derived.Laws.ResultCell
import Derived.Laws.Rows
namespace Go.Proofs.Ytkjnjccjkjachaa
open Go.RowKit
set_option linter.unusedSimpArgs false
set_option maxRecDepth 100000

theorem wpList_st_row {P : Program} {ops : Array Oper} {rest : List Oper} {o : Oper} {a : Act} {w : World} {Q : Exit → Act → World → Prop} (hgd : o.guard = none) (ty : TypeId) (x y : Operand) (ho : o.op = .store ty x y)
    (b : Nat) (hx : a.eval x = .pointer (some ⟨b, 0, none⟩)) (cells : Array Value) (hy : a.eval y = .agg cells) {old : Array Value} (H : w.heap[b]? = some (.cells old ty (0, 0))) (hi : (P.info? ty).map (·.size) = some cells.size) (hold : old.size = cells.size) (h1 : cells.all (·.oneCell') = true)
    (h : ∀ w', w'.heap[b]? = some (.cells cells ty (0, 0)) → w.grownBy w' (some b) → wpList P ops Q rest (a.put o.dst undef) w') : wpList P ops Q (o :: rest) a w :=
  wpList_store_row hgd ty x y ho b cells hx hy ty old H hi hold h1 (h _ (setRow_heap w b _ _ _ _ H) ⟨rfl, rfl, rfl, by rw [setRow_size]; exact Nat.le_refl _, fun k _ hk => setRow_other w b k _ (fun e => hk (by rw [e]))⟩)
theorem wp_st_row {P : Program} {o : Oper} {a : Act} {w : World} {K : Act → World → Prop} {Q : Exit → Act → World → Prop} (ty : TypeId) (x y : Operand) (ho : o.op = .store ty x y)
    (b : Nat) (hx : a.eval x = .pointer (some ⟨b, 0, none⟩)) (cells : Array Value) (hy : a.eval y = .agg cells) {old : Array Value} (H : w.heap[b]? = some (.cells old ty (0, 0))) (hi : (P.info? ty).map (·.size) = some cells.size) (hold : old.size = cells.size) (h1 : cells.all (·.oneCell') = true)
    (h : ∀ w', w'.heap[b]? = some (.cells cells ty (0, 0)) → w.grownBy w' (some b) → K (a.put o.dst undef) w') : o.wp P a w K Q :=
  wp_store_row ty x y ho b cells hx hy ty old H hi hold h1 (h _ (setRow_heap w b _ _ _ _ H) ⟨rfl, rfl, rfl, by rw [setRow_size]; exact Nat.le_refl _, fun k _ hk => setRow_other w b k _ (fun e => hk (by rw [e]))⟩)
theorem ret_cell1 {P : Program} {fn : Func} {R : Ending → World → Prop} {a : Act} {w : World} {p : Tmp} {ty : TypeId} (h : fn.results = #[.cell p ty]) (g : Nat) (t : TypeId) (cs : Array Value) (fr : Nat × Nat) (d : TypeDesc)
    (hp : a.tmps.getD p undef = .pointer (some ⟨g, 0, none⟩)) (hg : w.heap[g]? = some (.cells cs t fr))
    (hu : P.underlying ty = some d) (hd : (match d with | .struct _ | .array _ _ => true | _ => false) = true) (hi : (P.info? ty).map (·.size) = some cs.size)
    (hdef : a.defers = []) (hR : R (.returned (.agg cs)) w) : bodyPost P fn R .ret a w :=
  bodyPost_ret_by (results_cell_row h _ w g t cs fr d hp hg hu hd hi) hdef hR
/-- An operation that yields in every world of the class is taken; d: where its value goes. -/
theorem take_op {P : Program} {md : Region.Mode} {ops : Array Oper} {Q : Exit → Act → World → Prop} {S : World → Prop} {i : Nat} {oi : Oper} {v : Value} {fuel : Nat} {listed : Array Bool} {a : Act} {w : World} {d : Option Tmp} (hi : ops[i]? = some oi) (hd : oi.dst = d)
    (hs : Region.noSelect ops = true) (hf : Region.free md ops listed i = true) (hr : (Region.ready md ops listed).contains i = true)
    (hQ : ∀ c a w, Q (.panic c) (a.put d v) w → Q (.panic c) a w) (hy : YieldsIf P ops S oi v a) (hS : S w)
    (h : wpAnyH P md ops Q S fuel (listed.setIfInBounds i true) (a.put d v) w) : wpAnyH P md ops Q S (fuel + 1) listed a w := by
  subst hd
  exact wpAnyH_take hi hs hf hr hQ hy hS h
theorem below_own {W w w' : World} {b : Nat} (h : Below W.heap.size W w) (hb : W.heap.size ≤ b) (hg : w.grownBy w' (some b)) : Below W.heap.size W w' :=
  h.grown hg h.size (by rintro j hj; cases hj; exact hb)
theorem row_lt {w : World} {b : Nat} {o : Obj} (h : w.heap[b]? = some o) : b < w.heap.size := (Array.getElem?_eq_some_iff.1 h).1

/-- A page in its box, and a page's block for the result; a list of texts lay there before. -/
structure P2 (W wx : World) (bt br : Nat) (a0 a1 a2 a3 : Int) (h : ByteArray) (v : Value) (ao : Option Addr) (len : Nat) (S : Nat → ByteArray) : Prop where
  tb : wx.heap[bt]? = some (.cells #[.int .i64 a0, .int .i64 a1, .int .i64 a2, .int .i64 a3, .string h, v] 24 (0, 0))
  pr : wx.heap[br]? = some (.cells #[.int .i64 0, .int .i64 0, .int .i64 0, .int .i64 0, .string ⟨#[]⟩, .slice none 0 0] 24 (0, 0))
  i0 : StrsIn W ao len S
  bel : Below W.heap.size W wx
  lt : W.heap.size ≤ bt
  ne : bt < br
theorem P2.it {W wx : World} {bt br : Nat} {a0 a1 a2 a3 : Int} {h : ByteArray} {v : Value} {ao : Option Addr} {len : Nat} {S : Nat → ByteArray} (H : P2 W wx bt br a0 a1 a2 a3 h v ao len S) : StrsIn wx ao len S := H.i0.below H.bel rfl
theorem P2.le {W wx : World} {bt br : Nat} {a0 a1 a2 a3 : Int} {h : ByteArray} {v : Value} {ao : Option Addr} {len : Nat} {S : Nat → ByteArray} (H : P2 W wx bt br a0 a1 a2 a3 h v ao len S) : W.heap.size ≤ br := by have := H.lt; have := H.ne; omega
theorem P2.below {W wx w' : World} {bt br : Nat} {a0 a1 a2 a3 : Int} {h : ByteArray} {v : Value} {ao : Option Addr} {len : Nat} {S : Nat → ByteArray} (H : P2 W wx bt br a0 a1 a2 a3 h v ao len S) (hb : Below wx.heap.size wx w') : P2 W w' bt br a0 a1 a2 a3 h v ao len S :=
  ⟨(hb.block bt (row_lt H.tb)).trans H.tb, (hb.block br (row_lt H.pr)).trans H.pr, H.i0, H.bel.trans (hb.mono H.bel.size), H.lt, H.ne⟩
theorem P2.cell {W wx : World} {bt br : Nat} {a0 a1 a2 a3 : Int} {h : ByteArray} {v : Value} {ao : Option Addr} {len : Nat} {S : Nat → ByteArray} (H : P2 W wx bt br a0 a1 a2 a3 h v ao len S) :
    wx.cell? ⟨bt, 0, none⟩ = some (.int .i64 a0) ∧ wx.cell? ⟨bt, 1, none⟩ = some (.int .i64 a1) ∧ wx.cell? ⟨bt, 2, none⟩ = some (.int .i64 a2) ∧ wx.cell? ⟨bt, 3, none⟩ = some (.int .i64 a3) ∧ wx.cell? ⟨bt, 4, none⟩ = some (.string h) ∧ wx.cell? ⟨bt, 5, none⟩ = some v := by
  have h := H.tb
  refine ⟨?_, ?_, ?_, ?_, ?_, ?_⟩ <;> (simp only [World.cell?, h]; rfl)
theorem P2.fr {W wx : World} {bt br : Nat} {a0 a1 a2 a3 : Int} {h : ByteArray} {v : Value} {ao : Option Addr} {len : Nat} {S : Nat → ByteArray} (H : P2 W wx bt br a0 a1 a2 a3 h v ao len S) (j : Nat) : wx.frozen? ⟨bt, j, none⟩ = false := frozen_of_row wx bt j _ _ H.tb
theorem P2.set5 {W wx : World} {bt br : Nat} {a0 a1 a2 a3 : Int} {h : ByteArray} {v : Value} {ao : Option Addr} {len : Nat} {S : Nat → ByteArray} (H : P2 W wx bt br a0 a1 a2 a3 h v ao len S) (u : Value) : P2 W (wx.setCell ⟨bt, 5, none⟩ u) bt br a0 a1 a2 a3 h u ao len S :=
  ⟨heap_setCell_same wx bt 5 _ _ _ H.tb, ((grown_set wx bt 5 u).block br (row_lt H.pr) (by have := H.ne; simp; omega)).trans H.pr, H.i0, below_own H.bel H.lt (grown_set _ _ _ _), H.lt, H.ne⟩
theorem P2.new (w : World) (a0 a1 a2 a3 : Int) (h : ByteArray) (v : Value) (ao : Option Addr) (len : Nat) (S : Nat → ByteArray) (hs : StrsIn w ao len S) :
    ∃ wc bt br, wc = (w.alloc (.cells #[.int .i64 a0, .int .i64 a1, .int .i64 a2, .int .i64 a3, .string h, v] 24)).alloc (.cells #[.int .i64 0, .int .i64 0, .int .i64 0, .int .i64 0, .string ⟨#[]⟩, .slice none 0 0] 24) ∧ bt = w.heap.size ∧ br = w.heap.size + 1 ∧ P2 w wc bt br a0 a1 a2 a3 h v ao len S := by
  have q1 : Below w.heap.size w (w.alloc (.cells #[.int .i64 a0, .int .i64 a1, .int .i64 a2, .int .i64 a3, .string h, v] 24)) := (Below.refl _ w).alloc (Nat.le_refl _) _
  have q2 := (Below.refl _ (w.alloc (.cells #[.int .i64 a0, .int .i64 a1, .int .i64 a2, .int .i64 a3, .string h, v] 24))).alloc (Nat.le_refl _) (.cells #[.int .i64 0, .int .i64 0, .int .i64 0, .int .i64 0, .string ⟨#[]⟩, .slice none 0 0] 24)
  have q3 := heap_alloc_new w (.cells #[.int .i64 a0, .int .i64 a1, .int .i64 a2, .int .i64 a3, .string h, v] 24)
  have e : w.heap.size + 1 = (w.alloc (.cells #[.int .i64 a0, .int .i64 a1, .int .i64 a2, .int .i64 a3, .string h, v] 24)).heap.size := by simp
  refine ⟨_, _, _, rfl, rfl, rfl, (q2.block _ (row_lt q3)).trans q3, ?_, hs, q1.trans (q2.mono q1.size), Nat.le_refl _, by omega⟩
  rw [e]
  exact heap_alloc_new _ _
/-- What is told of a page with other items: some page, and the error. -/
def POut (w : World) (E : Int) (e : Ending) (w' : World) : Prop :=
  (∃ (b0 b1 b2 b3 : Int) (k : ByteArray) (ao2 : Option Addr) (n2 c2 : Nat), e = .returned (.tuple #[.agg #[.int .i64 b0, .int .i64 b1, .int .i64 b2, .int .i64 b3, .string k, .slice ao2 n2 c2], .int .i64 E])) ∧ Below w.heap.size w w'

set_option maxHeartbeats 4000000 in
theorem turned_c (a0 a1 a2 a3 : Int) (h : ByteArray) (ao0 : Option Addr) (n0 p0 : Nat) (ao : Option Addr) (len cap : Nat) (S : Nat → ByteArray) (w : World) (hlen : len ≤ 9223372036854775807) (hM : Small h S len) (hs : StrsIn w ao len S) :
    Calls Try.prog 51 #[.agg #[.int .i64 a0, .int .i64 a1, .int .i64 a2, .int .i64 a3, .string h, .slice ao0 n0 p0], .slice ao len cap] w fun e w' => POut w (if okfit h S len = true then 0 else 3) e w' := by
  have F := Lib.hid (fun w' hh => fits_p a0 a1 a2 a3 h ao len cap S w' hlen hM hh)
  obtain ⟨E, hE⟩ : ∃ E : Int, E = if okfit h S len = true then 0 else 3 := ⟨_, rfl⟩
  rw [← hE]
  have HE := Lib.hid hE
  obtain ⟨wc, bt, br, hwc, hbt, hbr, h1⟩ := P2.new w a0 a1 a2 a3 h (.slice ao0 n0 p0) ao len S hs
  have H1 := Lib.hid h1
  have HWC := Lib.hid hwc
  have HBT := Lib.hid hbt
  have HBR := Lib.hid hbr
  clear hwc hbt hbr h1 hs hM hE
  go_enter Try.func51, Try.ntmps51
  go_upto_region 1 with (fail)
  rw [← HWC.out, ← HBR.out, ← HBT.out]
  clear HWC HBT HBR
  obtain ⟨c0, c1, c2, c3, c4, c5⟩ := H1.out.cell
  have hfr := H1.out.fr 5
  go_upto_region 2 with (fail)
  have H2 := Lib.hid (H1.out.set5 (.slice ao len cap))
  clear c0 c1 c2 c3 c4 c5 hfr H1
  generalize wc.setCell ⟨bt, 5, none⟩ (.slice ao len cap) = w2 at *
  obtain ⟨c0, c1, c2, c3, c4, c5⟩ := H2.out.cell
  go_wp2_with fail
  clear c0 c1 c2 c3 c4 c5
  refine (F.out w2 H2.out.it).mono ?_
  rintro e w3 ⟨rfl, hb3⟩
  have H3 := Lib.hid (H2.out.below hb3)
  clear hb3 H2 F
  have hr := H3.out.pr
  obtain ⟨c0, c1, c2, c3, c4, c5⟩ := H3.out.cell
  cases hk : okfit h S len
  · obtain rfl : E = 3 := by rw [HE.out, hk]; rfl
    clear HE
    go_wp2_with (refine wpList_st_row rfl 24 _ _ rfl br rfl _ rfl hr (by kernel_rfl) rfl (by simp [Value.oneCell']) (fun w4 hp4 hg4 => ?_); have P4 := Lib.hid hp4; have B4 := Lib.hid (below_own H3.out.bel H3.out.le hg4); clear hp4 hg4)
    refine ret_cell rfl br _ _ _ _ rfl P4.out Try.underlying24 rfl (by kernel_rfl) rfl ?_
    exact ⟨⟨_, _, _, _, _, _, _, _, rfl⟩, B4.out⟩
  · obtain rfl : E = 0 := by rw [HE.out, hk]; rfl
    clear HE
    go_wp2_with (refine wpList_st_row rfl 24 _ _ rfl br rfl _ rfl hr (by kernel_rfl) rfl (by simp [Value.oneCell']) (fun w4 hp4 hg4 => ?_); have P4 := Lib.hid hp4; have B4 := Lib.hid (below_own H3.out.bel H3.out.le hg4); clear hp4 hg4)
    refine ret_cell rfl br _ _ _ _ rfl P4.out Try.underlying24 rfl (by kernel_rfl) rfl ?_
    exact ⟨⟨_, _, _, _, _, _, _, _, rfl⟩, B4.out⟩

set_option maxHeartbeats 4000000 in
/-- A page with another item in a place that is there. -/
theorem with_c (a0 a1 a2 a3 : Int) (h : ByteArray) (ao : Option Addr) (len cap i : Nat) (S : Nat → ByteArray) (x : ByteArray) (w : World) (hi : i < len) (hlen : len ≤ 8796093022207) (hM : Small h S len) (hx : x.size ≤ 140737488355328) (hs : StrsIn w ao len S) :
    Calls Try.prog 39 #[.agg #[.int .i64 a0, .int .i64 a1, .int .i64 a2, .int .i64 a3, .string h, .slice ao len cap], .int .i64 i, .string x] w fun e w' => POut w (if okfit h (updS S i x) len = true then 0 else 3) e w' := by
  obtain ⟨E, hE⟩ : ∃ E : Int, E = if okfit h (updS S i x) len = true then 0 else 3 := ⟨_, rfl⟩
  rw [← hE]
  have hM2 : Small h (updS S i x) len := ⟨hM.hh, fun j hj => by
    unfold updS; split
    · exact hx
    · exact hM.it j hj⟩
  have F := Lib.hid (fun w' ao' cap' hh => turned_c a0 a1 a2 a3 h ao len cap ao' len cap' (updS S i x) w' (by omega) hM2 hh)
  rw [← hE] at F
  obtain ⟨wc, bt, br, hwc, hbt, hbr, h1⟩ := P2.new w a0 a1 a2 a3 h (.slice ao len cap) ao len S hs
  have H1 := Lib.hid h1
  have HWC := Lib.hid hwc
  have HBT := Lib.hid hbt
  have HBR := Lib.hid hbr
  have HM2 := Lib.hid hM2
  have HM := Lib.hid hM
  clear hwc hbt hbr h1 hs hM hE hM2 hx
  go_enter Try.func39, Try.ntmps39
  have c := H1.out.cell
  rw [HWC.out, HBT.out] at c
  obtain ⟨c0, c1, c2, c3, c4, c5⟩ := c
  go_wp2_with fail
  clear c0 c1 c2 c3 c4 c5
  rw [← HWC.out, ← HBR.out, ← HBT.out]
  clear HWC HBT HBR
  refine (clone_c ao len cap S wc hlen H1.out.it).mono ?_
  rintro e w2 ⟨v, rfl, hv, hb2⟩
  have H2 := Lib.hid (H1.out.below hb2)
  have HBR2 : Hid (br < wc.heap.size) := row_lt H1.out.pr
  have HW : Hid (w.heap.size ≤ wc.heap.size) := H1.out.bel.size
  clear hb2 H1
  obtain ⟨g, cp, rfl, hg⟩ : ∃ g cp, v = .slice (some ⟨g, 0, none⟩) len cp ∧ wc.heap.size ≤ g := by
    obtain ⟨_, ⟨_, h0⟩ | ⟨g, cp, cur, rfl, hg, _⟩⟩ := hv
    · omega
    · exact ⟨g, cp, rfl, hg⟩
  obtain ⟨ao3, cp3, h3, hs3⟩ := own_strs hv (fun j hj => by have := HM.out.it j hj; omega)
  cases h3
  have hci := itAt hs3 hi
  rw [Nat.zero_add] at hci
  have hfr : w2.frozen? ⟨g, i, none⟩ = false := by
    obtain ⟨_, ⟨h4, _⟩ | ⟨g', cp', cur, h4, _, h5, _⟩⟩ := hv
    · simp at h4
    · simp only [Value.slice.injEq, Option.some.injEq, Addr.mk.injEq, and_true, true_and] at h4
      obtain ⟨rfl, rfl⟩ := h4
      exact frozen_of_row w2 g i _ _ h5
  have HV := Lib.hid hv
  have HG := Lib.hid hg
  clear hv hg hs3
  have hi2 : i ≤ len := by omega
  go_upto_region 5 with (fail)
  have HV3 := Lib.hid (own_set HV.out hi x)
  have H3 : Hid (P2 w (w2.setCell ⟨g, i, none⟩ (.string x)) bt br a0 a1 a2 a3 h (.slice ao len cap) ao len S) := by
    have g1 := HG.out; have g2 := HBR2.out; have g3 := H2.out.ne; have g4 := HW.out
    exact ⟨((grown_set w2 g i _).block bt (row_lt H2.out.tb) (by simp; omega)).trans H2.out.tb, ((grown_set w2 g i _).block br (row_lt H2.out.pr) (by simp; omega)).trans H2.out.pr, H2.out.i0, below_own H2.out.bel (by omega) (grown_set _ _ _ _), H2.out.lt, H2.out.ne⟩
  clear hci hfr HV H2 HG
  generalize w2.setCell ⟨g, i, none⟩ (.string x) = w3 at *
  obtain ⟨c0, c1, c2, c3, c4, c5⟩ := H3.out.cell
  go_wp2_with fail
  clear c0 c1 c2 c3 c4 c5
  obtain ⟨ao4, cp4, h4, hs4⟩ := own_strs HV3.out (fun j hj => by have := HM2.out.it j hj; omega)
  cases h4
  refine (F.out w3 _ _ hs4).mono ?_
  rintro e w4 ⟨⟨b0, b1, b2, b3, k, ao5, n5, c5, rfl⟩, hb4⟩
  have H4 := Lib.hid (H3.out.below hb4)
  clear hb4 H3 F hs4 HV3
  have hr := H4.out.pr
  go_wp2_with (refine wpList_st_row rfl 24 _ _ rfl br rfl _ rfl hr (by kernel_rfl) rfl (by simp [Value.oneCell']) (fun w5 hp5 hg5 => ?_); have P5 := Lib.hid hp5; have B5 := Lib.hid (below_own H4.out.bel H4.out.le hg5); clear hp5 hg5)
  refine ret_cell rfl br _ _ _ _ rfl P5.out Try.underlying24 rfl (by kernel_rfl) rfl ?_
  exact ⟨⟨_, _, _, _, _, _, _, _, rfl⟩, B5.out⟩

end Go.Proofs.Ytkjnjccjkjachaa
