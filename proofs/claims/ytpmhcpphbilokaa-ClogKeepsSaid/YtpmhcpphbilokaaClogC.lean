/- Statuses: a page in memory, and how it is made. -/
import Derived.Test.YtpmhcpphbilokaaClogB
import Derived.Test.YtpmhcpphbilokaaBitsP
import Derived.Deep.DeepCutAuto
import Derived.Laws.ResultCell
import Derived.Laws.Rows
namespace Go.Proofs.Ytpmhcpphbilokaa
open Go.RowKit
set_option linter.unusedSimpArgs false
set_option maxRecDepth 100000

/-- A block holds a page. -/
def PK (w : World) (b : Nat) (a0 a1 a2 a3 : Int) (h : ByteArray) (v : Value) : Prop := w.heap[b]? = some (.cells #[.int .i64 a0, .int .i64 a1, .int .i64 a2, .int .i64 a3, .string h, v] 25 (0, 0))
theorem PK.cell {w : World} {b : Nat} {a0 a1 a2 a3 : Int} {h : ByteArray} {v : Value} (H : PK w b a0 a1 a2 a3 h v) :
    w.cell? ⟨b, 0, none⟩ = some (.int .i64 a0) ∧ w.cell? ⟨b, 1, none⟩ = some (.int .i64 a1) ∧ w.cell? ⟨b, 2, none⟩ = some (.int .i64 a2) ∧ w.cell? ⟨b, 3, none⟩ = some (.int .i64 a3) ∧ w.cell? ⟨b, 4, none⟩ = some (.string h) ∧ w.cell? ⟨b, 5, none⟩ = some v := by
  unfold PK at H
  refine ⟨?_, ?_, ?_, ?_, ?_, ?_⟩ <;> (simp only [World.cell?, H]; rfl)
theorem PK.fr {w : World} {b : Nat} {a0 a1 a2 a3 : Int} {h : ByteArray} {v : Value} (H : PK w b a0 a1 a2 a3 h v) (j : Nat) : w.frozen? ⟨b, j, none⟩ = false := frozen_of_row w b j _ _ H
theorem PK.lt {w : World} {b : Nat} {a0 a1 a2 a3 : Int} {h : ByteArray} {v : Value} (H : PK w b a0 a1 a2 a3 h v) : b < w.heap.size := World.block_lt_of_cell? w _ H.cell.1
theorem PK.grown {w w' : World} {b : Nat} {a0 a1 a2 a3 : Int} {h : ByteArray} {v : Value} (H : PK w b a0 a1 a2 a3 h v) {row : Option Nat} (hg : w.grownBy w' row) (hr : some b ≠ row) : PK w' b a0 a1 a2 a3 h v := (hg.block b H.lt hr).trans H
theorem PK.below {w w' : World} {b : Nat} {a0 a1 a2 a3 : Int} {h : ByteArray} {v : Value} (H : PK w b a0 a1 a2 a3 h v) (hb : Below w.heap.size w w') : PK w' b a0 a1 a2 a3 h v := H.grown (grown_of hb) (by simp)
theorem PK.new (w : World) (a0 a1 a2 a3 : Int) (h : ByteArray) (v : Value) : PK (w.alloc (.cells #[.int .i64 a0, .int .i64 a1, .int .i64 a2, .int .i64 a3, .string h, v] 25)) w.heap.size a0 a1 a2 a3 h v := heap_alloc_new w _
/-- A page is stored into a page's block. -/
def setP (w : World) (b : Nat) (a0 a1 a2 a3 : Int) (h : ByteArray) (v : Value) : World := w.setRow b #[.int .i64 a0, .int .i64 a1, .int .i64 a2, .int .i64 a3, .string h, v]
theorem PK.set {w : World} {b : Nat} {a0 a1 a2 a3 : Int} {h : ByteArray} {v : Value} (H : PK w b a0 a1 a2 a3 h v) (c0 c1 c2 c3 : Int) (k : ByteArray) (u : Value) : PK (setP w b c0 c1 c2 c3 k u) b c0 c1 c2 c3 k u := setRow_heap w b _ _ _ _ H
theorem setP_grown (w : World) (b : Nat) (a0 a1 a2 a3 : Int) (h : ByteArray) (v : Value) : w.grownBy (setP w b a0 a1 a2 a3 h v) (some b) :=
  ⟨rfl, rfl, rfl, by unfold setP; rw [setRow_size]; exact Nat.le_refl _, fun k _ hk => setRow_other w b k _ (fun e => hk (by rw [e]))⟩
/-- A block that holds a page: which one is not told. -/
def IsPg (w : World) (b : Nat) : Prop := ∃ cs : Array Value, cs.size = 6 ∧ w.heap[b]? = some (.cells cs 25 (0, 0))
theorem PK.is {w : World} {b : Nat} {a0 a1 a2 a3 : Int} {h : ByteArray} {v : Value} (H : PK w b a0 a1 a2 a3 h v) : IsPg w b := ⟨_, rfl, H⟩
theorem IsPg.lt {w : World} {b : Nat} (H : IsPg w b) : b < w.heap.size := by
  obtain ⟨cs, _, h⟩ := H
  exact (Array.getElem?_eq_some_iff.1 h).1
theorem IsPg.grown {w w' : World} {b : Nat} (H : IsPg w b) {row : Option Nat} (hg : w.grownBy w' row) (hr : some b ≠ row) : IsPg w' b := by
  have hl := H.lt
  obtain ⟨cs, h1, h⟩ := H
  exact ⟨cs, h1, (hg.block b hl hr).trans h⟩
theorem IsPg.set6 {w : World} {b : Nat} (H : IsPg w b) (c0 c1 c2 c3 : Int) (k : ByteArray) (u : Value) : PK (setP w b c0 c1 c2 c3 k u) b c0 c1 c2 c3 k u := by
  obtain ⟨cs, _, h⟩ := H
  exact setRow_heap w b _ _ _ _ h
theorem wpList_st_page {ops : Array Oper} {rest : List Oper} {o : Oper} {a : Act} {w : World} {Q : Exit → Act → World → Prop} (hgd : o.guard = none) (x y : Operand) (ho : o.op = .store 25 x y)
    (b : Nat) (hx : a.eval x = .pointer (some ⟨b, 0, none⟩)) (c0 c1 c2 c3 : Int) (k : ByteArray) (u : Value) (hy : a.eval y = .agg #[.int .i64 c0, .int .i64 c1, .int .i64 c2, .int .i64 c3, .string k, u]) (hu : u.oneCell' = true) (H : IsPg w b)
    (h : wpList Try.prog ops Q rest (a.put o.dst undef) (setP w b c0 c1 c2 c3 k u)) : wpList Try.prog ops Q (o :: rest) a w := by
  obtain ⟨cs, h1, hg⟩ := H
  exact wpList_store_row hgd _ x y ho b _ hx hy _ _ hg (by kernel_rfl) h1 (by rw [Array.all_eq_true_iff_forall_mem]; intro v hv; simp at hv; rcases hv with rfl | rfl | rfl | rfl | rfl | rfl <;> first | rfl | exact hu) h
theorem wp_st_page {o : Oper} {a : Act} {w : World} {K : Act → World → Prop} {Q : Exit → Act → World → Prop} (x y : Operand) (ho : o.op = .store 25 x y)
    (b : Nat) (hx : a.eval x = .pointer (some ⟨b, 0, none⟩)) (c0 c1 c2 c3 : Int) (k : ByteArray) (u : Value) (hy : a.eval y = .agg #[.int .i64 c0, .int .i64 c1, .int .i64 c2, .int .i64 c3, .string k, u]) (hu : u.oneCell' = true) (H : IsPg w b)
    (h : K (a.put o.dst undef) (setP w b c0 c1 c2 c3 k u)) : o.wp Try.prog a w K Q := by
  obtain ⟨cs, h1, hg⟩ := H
  exact wp_store_row _ x y ho b _ hx hy _ _ hg (by kernel_rfl) h1 (by rw [Array.all_eq_true_iff_forall_mem]; intro v hv; simp at hv; rcases hv with rfl | rfl | rfl | rfl | rfl | rfl <;> first | rfl | exact hu) h
/-- An operation that yields in every world of the class is taken; d: where its value goes. -/
theorem take_op {P : Program} {md : Region.Mode} {ops : Array Oper} {Q : Exit → Act → World → Prop} {S : World → Prop} {i : Nat} {oi : Oper} {v : Value} {fuel : Nat} {listed : Array Bool} {a : Act} {w : World} {d : Option Tmp} (hi : ops[i]? = some oi) (hd : oi.dst = d)
    (hs : Region.noSelect ops = true) (hf : Region.free md ops listed i = true) (hr : (Region.ready md ops listed).contains i = true)
    (hQ : ∀ c a w, Q (.panic c) (a.put d v) w → Q (.panic c) a w) (hy : YieldsIf P ops S oi v a) (hS : S w)
    (h : wpAnyH P md ops Q S fuel (listed.setIfInBounds i true) (a.put d v) w) : wpAnyH P md ops Q S (fuel + 1) listed a w := by
  subst hd
  exact wpAnyH_take hi hs hf hr hQ hy hS h
theorem below_own {W w w' : World} {b : Nat} (h : Below W.heap.size W w) (hb : W.heap.size ≤ b) (hg : w.grownBy w' (some b)) : Below W.heap.size W w' :=
  h.grown hg h.size (by rintro j hj; cases hj; exact hb)
/-- A function whose first result lies in a block. -/
theorem ret_cell {P : Program} {fn : Func} {R : Ending → World → Prop} {a : Act} {w : World} {p u : Tmp} {ty : TypeId} (h : fn.results = #[.cell p ty, .tmp u]) (g : Nat) (t : TypeId) (cs : Array Value) (fr : Nat × Nat) (d : TypeDesc)
    (hp : a.tmps.getD p undef = .pointer (some ⟨g, 0, none⟩)) (hg : w.heap[g]? = some (.cells cs t fr))
    (hu : P.underlying ty = some d) (hd : (match d with | .struct _ | .array _ _ => true | _ => false) = true) (hi : (P.info? ty).map (·.size) = some cs.size)
    (hdef : a.defers = []) (hR : R (.returned (.tuple #[.agg cs, a.tmps.getD u undef])) w) : bodyPost P fn R .ret a w := by
  refine bodyPost_ret_by ?_ hdef hR
  rw [results_cell_tmp h, hp]
  simp [asAddr, run_loadVar_row w g t ty cs fr d hg hu hd hi, Result.andThen]
theorem ret_cell1 {P : Program} {fn : Func} {R : Ending → World → Prop} {a : Act} {w : World} {p : Tmp} {ty : TypeId} (h : fn.results = #[.cell p ty]) (g : Nat) (t : TypeId) (cs : Array Value) (fr : Nat × Nat) (d : TypeDesc)
    (hp : a.tmps.getD p undef = .pointer (some ⟨g, 0, none⟩)) (hg : w.heap[g]? = some (.cells cs t fr))
    (hu : P.underlying ty = some d) (hd : (match d with | .struct _ | .array _ _ => true | _ => false) = true) (hi : (P.info? ty).map (·.size) = some cs.size)
    (hdef : a.defers = []) (hR : R (.returned (.agg cs)) w) : bodyPost P fn R .ret a w :=
  bodyPost_ret_by (results_cell_row h _ w g t cs fr d hp hg hu hd hi) hdef hR

/-- The text of a limit. -/
def numS (x : Int) : ByteArray := ⟨(sev x.toNat).toArray⟩
/-- A page of statuses. -/
def pgV (lsn : Int) (g : Nat) : Value := .agg #[.int .i64 lsn, .int .i64 1, .int .i64 0, .int .i64 0, .string ⟨#[]⟩, .slice (some ⟨g, 0, none⟩) 2 2]
/-- Its items. -/
structure PgIn (w : World) (g : Nat) (x : Int) (l : List UInt8) : Prop where
  c0 : w.cell? ⟨g, 0, none⟩ = some (.string (numS x))
  c1 : w.cell? ⟨g, 1, none⟩ = some (.string ⟨l.toArray⟩)
theorem PgIn.lt {w : World} {g : Nat} {x : Int} {l : List UInt8} (h : PgIn w g x l) : g < w.heap.size := World.block_lt_of_cell? w _ h.c0
theorem PgIn.grown {w w' : World} {g : Nat} {x : Int} {l : List UInt8} (h : PgIn w g x l) {row : Option Nat} (hg : w.grownBy w' row) (hr : some g ≠ row) : PgIn w' g x l := ⟨grown_at hg h.c0 hr, grown_at hg h.c1 hr⟩
theorem PgIn.below {w w' : World} {g : Nat} {x : Int} {l : List UInt8} (h : PgIn w g x l) (hb : Below w.heap.size w w') : PgIn w' g x l := h.grown (grown_of hb) (by simp)

theorem pgIn_new (w : World) (x : Int) (l : List UInt8) : PgIn (w.alloc (.cells #[.string { data := (sev x.toNat).toArray }, .string { data := l.toArray }] 9)) w.heap.size x l := by
  have h := heap_alloc_new w (.cells #[.string { data := (sev x.toNat).toArray }, .string { data := l.toArray }] 9)
  constructor <;> (simp only [World.cell?, h]; rfl)

set_option maxHeartbeats 2000000 in
theorem made_c (x lsn : Int) (g n cap : Nat) (l : List UInt8) (w : World) (hx : x ≤ 9223372036854775807) (hn : l.length = n) (hc : ∀ j (h : j < l.length), w.cell? ⟨g, j, none⟩ = some (.int .u8 l[j].toNat)) :
    Calls Try.prog 26 #[.int .i64 x, .slice (some ⟨g, 0, none⟩) n cap, .int .i64 lsn] w fun e w' => (∃ q, e = .returned (pgV lsn q) ∧ PgIn w' q x l ∧ w.heap.size ≤ q) ∧ Below w.heap.size w w' := by
  have HC := Lib.hid hc
  have HN := Lib.hid hn
  clear hc hn
  obtain ⟨wb, hwb⟩ : ∃ wb, wb = w.alloc (.cells #[.int .i64 0, .int .i64 0, .int .i64 0, .int .i64 0, .string ⟨#[]⟩, .slice none 0 0] 25) := ⟨_, rfl⟩
  obtain ⟨br, hbr⟩ : ∃ br, br = w.heap.size := ⟨_, rfl⟩
  have HRB : Hid (PK wb br 0 0 0 0 ⟨#[]⟩ (.slice none 0 0)) := by rw [hwb, hbr]; exact PK.new w 0 0 0 0 _ _
  have HB : Hid (Below w.heap.size w wb) := by rw [hwb]; exact (Below.refl _ w).alloc (Nat.le_refl _) _
  have HWB := Lib.hid hwb
  have HBR := Lib.hid hbr
  clear hwb hbr
  go_enter Try.func26, Try.ntmps26
  go_wp2_with fail
  rw [← HWB.out, ← HBR.out]
  refine (new_c wb).mono ?_
  rintro e w1 ⟨rfl, hw1, hb1, hz1⟩
  obtain ⟨bw, hbw⟩ : ∃ bw, bw = wb.heap.size := ⟨_, rfl⟩
  rw [← hbw] at hw1 ⊢
  have HW1 := Lib.hid hw1
  have HB1 := Lib.hid (HB.out.trans (hb1.mono HB.out.size))
  have HRB1 := Lib.hid (HRB.out.below hb1)
  have HN1 : Hid (br < bw) := by rw [hbw]; exact HRB.out.lt
  have HN0 : Hid (w.heap.size ≤ br) := by unfold Hid; rw [HBR.out]; exact Nat.le_refl _
  clear hw1 hb1 hz1 hbw HB HRB HWB HBR
  generalize w1.heap.size = B1 at *
  go_wp2_with fail
  refine (num1_c bw _ _ [] x w1 _ HW1.out rfl hx (by simp)).mono ?_
  rintro e w2 ⟨rfl, v', hs⟩
  have HT2 : Hid (Below w.heap.size w w2) := by
    have h := hs.touch
    have h1 := HN0.out; have h2 := HN1.out
    exact HB1.out.trans (h.below HB1.out.size (by omega) (by intro q e; simp [Value.ownBlock] at e))
  have HW2 := Lib.hid hs.wr
  have HRB2 : Hid (PK w2 br 0 0 0 0 ⟨#[]⟩ (.slice none 0 0)) := (hs.touch.block br HRB1.out.lt (by have := HN1.out; omega) (by simp [Value.ownBlock])).trans HRB1.out
  clear hs HB1 HW1 HRB1
  have hR : ∀ w', Below w.heap.size w w' → (convert 55 9 (.slice (some ⟨g, 0, none⟩) n cap)).run Try.prog w' = .ok (.string ⟨l.toArray⟩) w' := fun w' hb =>
    run_string_cells (P := Try.prog) _ 55 9 5 Try.underlying55 Try.underlying5 Try.underlying9 g n cap l HN.out (fun j hj => bel_at hb (HC.out j hj))
  have HW3 : Hid (WrV w2.drew bw B1 5 v' ([] ++ sev x.toNat)) := ⟨HW2.out.cell, HW2.out.fr, HW2.out.own, HW2.out.lt, HW2.out.le⟩
  have HRB3 : Hid (PK w2.drew br 0 0 0 0 ⟨#[]⟩ (.slice none 0 0)) := HRB2.out
  have HT3 : Hid (Below w.heap.size w w2.drew) := ⟨HT2.out.os, HT2.out.tape, HT2.out.output, HT2.out.size, HT2.out.block⟩
  have HR := Lib.hid hR
  clear hR HW2 HRB2 HT2 hx
  go_upto_region 3 with (fail)
  generalize w1.heap.size = B2
  refine wp_region_held_drew (S := fun w' => Below w.heap.size w w') (by kernel_rfl) HT3.out (fun hHeld => ?_)
  refine take_op (i := 0) (d := some 13) (v := ?_) rfl rfl (by kernel_rfl) (by kernel_rfl) (by kernel_rfl) (fun _ _ _ h => h) (Or.inl ⟨by rfl, ?_⟩) (by assumption) ?_
  rotate_left
  · (intro w' hSw; (try dsimp only at hSw); go_simp; try (with_reducible rfl))
  try simp only [Act.put, List.setIfInBounds_toArray, List.set_cons_zero, List.set_cons_succ]
  refine take_op (i := 1) (d := some 14) (v := ?_) rfl rfl (by kernel_rfl) (by kernel_rfl) (by kernel_rfl) (fun _ _ _ h => h) (Or.inl ⟨by rfl, ?_⟩) (by assumption) ?_
  rotate_left
  · (intro w' hSw; (try dsimp only at hSw); go_simp; try (with_reducible rfl))
  try simp only [Act.put, List.setIfInBounds_toArray, List.set_cons_zero, List.set_cons_succ]
  refine take_op (i := 3) (d := some 16) (v := ?_) rfl rfl (by kernel_rfl) (by kernel_rfl) (by kernel_rfl) (fun _ _ _ h => h) (Or.inl ⟨by rfl, ?_⟩) (by assumption) ?_
  rotate_left
  · (intro w' hSw; (try dsimp only at hSw); go_simp; try (with_reducible rfl))
  try simp only [Act.put, List.setIfInBounds_toArray, List.set_cons_zero, List.set_cons_succ]
  refine wpAnyH_ready (rs := [2, 4]) (by kernel_rfl) (by simp) ?_
  refine AllReadyH.cons rfl (fun K hK => ?_) (AllReadyH.cons rfl (fun K hK => ?_) AllReadyH.nil)
  · go_simp
    refine (bytes_c bw B1 v' _ _ HW3.out).mono ?_
    rintro e w5 ⟨rfl, rfl⟩
    refine hK.out _ _ hHeld (fun hHeld => ?_)
    clear hK K
    try simp only [Act.put, List.setIfInBounds_toArray, List.set_cons_zero, List.set_cons_succ]
    refine wpAnyH_ready (rs := [4]) (by kernel_rfl) (by simp) ?_
    refine AllReadyH.cons rfl (fun K hK => ?_) AllReadyH.nil
    have hq := HR.out _ hHeld
    go_simp
    refine hK.out _ _ hHeld (fun hHeld => ?_)
    clear hK K hq
    try simp only [Act.put, List.setIfInBounds_toArray, List.set_cons_zero, List.set_cons_succ]
    refine wpAnyH_ready (rs := [5]) (by kernel_rfl) (by simp) ?_
    refine AllReadyH.cons rfl (fun K hK => ?_) AllReadyH.nil
    go_simp
    refine hK.out _ _ (hHeld.alloc hHeld.size _) (fun hHeld => ?_)
    clear hK K
    try simp only [Act.put, List.setIfInBounds_toArray, List.set_cons_zero, List.set_cons_succ]
    refine wpAnyH_ready (rs := [6]) (by kernel_rfl) (by simp) ?_
    refine AllReadyH.cons rfl (fun K hK => ?_) AllReadyH.nil
    go_simp
    refine hK.out _ _ hHeld (fun hHeld => ?_)
    clear hK K
    try simp only [Act.put, List.setIfInBounds_toArray, List.set_cons_zero, List.set_cons_succ]
    refine wpAnyH_ready (rs := [7]) (by kernel_rfl) (by simp) ?_
    refine AllReadyH.cons rfl (fun K hK => ?_) AllReadyH.nil
    rw [if_pos (by rfl)]
    have hip : IsPg (w2.drew.alloc (.cells #[.string { data := (sev x.toNat).toArray }, .string { data := l.toArray }] 9)) br := HRB3.out.is.grown (grown_alloc _ _ none) (by simp)
    refine wp_st_page _ _ rfl br rfl _ _ _ _ _ _ rfl rfl hip ?_
    try simp only [Act.put, List.setIfInBounds_toArray, List.set_cons_zero, List.set_cons_succ]
    refine hK.out _ _ (below_own hHeld HN0.out (setP_grown _ _ _ _ _ _ _ _)) (fun hHeld => ?_)
    clear hK K
    try simp only [Act.put, List.setIfInBounds_toArray, List.set_cons_zero, List.set_cons_succ]
    refine wpAnyH_done (by kernel_rfl) ?_ _
    go_wp2_with fail
    refine ret_cell1 rfl br _ _ _ _ rfl (hip.set6 _ _ _ _ _ _) Try.underlying25 rfl (by kernel_rfl) rfl ?_
    have hne : some w2.heap.size ≠ some br := by have := HRB3.out.lt; intro e; injection e with e; have h' : br < w2.heap.size := this; omega
    exact ⟨⟨_, rfl, (pgIn_new w2.drew x l).grown (setP_grown _ _ _ _ _ _ _ _) hne, by have := HT3.out.size; exact this⟩, hHeld⟩
  · have hq := HR.out _ hHeld
    go_simp
    refine hK.out _ _ hHeld (fun hHeld => ?_)
    clear hK K hq
    try simp only [Act.put, List.setIfInBounds_toArray, List.set_cons_zero, List.set_cons_succ]
    refine wpAnyH_ready (rs := [2]) (by kernel_rfl) (by simp) ?_
    refine AllReadyH.cons rfl (fun K hK => ?_) AllReadyH.nil
    go_simp
    refine (bytes_c bw B1 v' _ _ HW3.out).mono ?_
    rintro e w5 ⟨rfl, rfl⟩
    refine hK.out _ _ hHeld (fun hHeld => ?_)
    clear hK K
    try simp only [Act.put, List.setIfInBounds_toArray, List.set_cons_zero, List.set_cons_succ]
    refine wpAnyH_ready (rs := [5]) (by kernel_rfl) (by simp) ?_
    refine AllReadyH.cons rfl (fun K hK => ?_) AllReadyH.nil
    go_simp
    refine hK.out _ _ (hHeld.alloc hHeld.size _) (fun hHeld => ?_)
    clear hK K
    try simp only [Act.put, List.setIfInBounds_toArray, List.set_cons_zero, List.set_cons_succ]
    refine wpAnyH_ready (rs := [6]) (by kernel_rfl) (by simp) ?_
    refine AllReadyH.cons rfl (fun K hK => ?_) AllReadyH.nil
    go_simp
    refine hK.out _ _ hHeld (fun hHeld => ?_)
    clear hK K
    try simp only [Act.put, List.setIfInBounds_toArray, List.set_cons_zero, List.set_cons_succ]
    refine wpAnyH_ready (rs := [7]) (by kernel_rfl) (by simp) ?_
    refine AllReadyH.cons rfl (fun K hK => ?_) AllReadyH.nil
    rw [if_pos (by rfl)]
    have hip : IsPg (w2.drew.alloc (.cells #[.string { data := (sev x.toNat).toArray }, .string { data := l.toArray }] 9)) br := HRB3.out.is.grown (grown_alloc _ _ none) (by simp)
    refine wp_st_page _ _ rfl br rfl _ _ _ _ _ _ rfl rfl hip ?_
    try simp only [Act.put, List.setIfInBounds_toArray, List.set_cons_zero, List.set_cons_succ]
    refine hK.out _ _ (below_own hHeld HN0.out (setP_grown _ _ _ _ _ _ _ _)) (fun hHeld => ?_)
    clear hK K
    try simp only [Act.put, List.setIfInBounds_toArray, List.set_cons_zero, List.set_cons_succ]
    refine wpAnyH_done (by kernel_rfl) ?_ _
    go_wp2_with fail
    refine ret_cell1 rfl br _ _ _ _ rfl (hip.set6 _ _ _ _ _ _) Try.underlying25 rfl (by kernel_rfl) rfl ?_
    have hne : some w2.heap.size ≠ some br := by have := HRB3.out.lt; intro e; injection e with e; have h' : br < w2.heap.size := this; omega
    exact ⟨⟨_, rfl, (pgIn_new w2.drew x l).grown (setP_grown _ _ _ _ _ _ _ _) hne, by have := HT3.out.size; exact this⟩, hHeld⟩
end Go.Proofs.Ytpmhcpphbilokaa
