/- Checks: the reference reads a sector: the walk. Printed by gen_ckm.py. -/
import Derived.Test.YtbhiijjnobcmoaaCkL
import Derived.Test.YtbhiijjnobcmoaaLex
import Derived.Deep.RegionHeld
import Derived.Deep.DeepCutAuto
namespace Go.Proofs.Ytbhiijjnobcmoaa
open Go.RowKit
set_option linter.unusedSimpArgs false
set_option maxRecDepth 100000

/-- An operation that yields in every world of the class is taken; d: where its value goes. -/
theorem take_op {P : Program} {md : Region.Mode} {ops : Array Oper} {Q : Exit → Act → World → Prop} {S : World → Prop} {i : Nat} {oi : Oper} {v : Value} {fuel : Nat} {listed : Array Bool} {a : Act} {w : World} {d : Option Tmp} (hi : ops[i]? = some oi) (hd : oi.dst = d)
    (hs : Region.noSelect ops = true) (hf : Region.free md ops listed i = true) (hr : (Region.ready md ops listed).contains i = true)
    (hQ : ∀ c a w, Q (.panic c) (a.put d v) w → Q (.panic c) a w) (hy : YieldsIf P ops S oi v a) (hS : S w)
    (h : wpAnyH P md ops Q S fuel (listed.setIfInBounds i true) (a.put d v) w) : wpAnyH P md ops Q S (fuel + 1) listed a w := by
  subst hd
  exact wpAnyH_take hi hs hf hr hQ hy hS h
theorem wp_st_row {P : Program} {o : Oper} {a : Act} {w : World} {K : Act → World → Prop} {Q : Exit → Act → World → Prop} (ty : TypeId) (x y : Operand) (ho : o.op = .store ty x y)
    (b : Nat) (hx : a.eval x = .pointer (some ⟨b, 0, none⟩)) (cells : Array Value) (hy : a.eval y = .agg cells) {old : Array Value} (H : w.heap[b]? = some (.cells old ty (0, 0))) (hi : (P.info? ty).map (·.size) = some cells.size) (hold : old.size = cells.size) (h1 : cells.all (·.oneCell') = true)
    (h : ∀ w', w'.heap[b]? = some (.cells cells ty (0, 0)) → w.grownBy w' (some b) → K (a.put o.dst undef) w') : o.wp P a w K Q :=
  wp_store_row ty x y ho b cells hx hy ty old H hi hold h1 (h _ (setRow_heap w b _ _ _ _ H) ⟨rfl, rfl, rfl, by rw [setRow_size]; exact Nat.le_refl _, fun k _ hk => setRow_other w b k _ (fun e => hk (by rw [e]))⟩)

/-- While the reference reads a sector. -/
structure DR (W wx : World) (bc br : Nat) (a b c d n s k : Int) : Prop where
  ct : CT wx bc a b c d n s k
  rs : CT wx br 0 0 0 0 0 0 0
  bel : Below W.heap.size W wx
  n0 : W.heap.size ≤ br
  n1 : br < bc
theorem DR.below {W wx w' : World} {bc br : Nat} {a b c d n s k : Int} (H : DR W wx bc br a b c d n s k) (hb : Below wx.heap.size wx w') : DR W w' bc br a b c d n s k :=
  ⟨H.ct.below hb, H.rs.below hb, H.bel.trans (hb.mono H.bel.size), H.n0, H.n1⟩
theorem DR.grown {W wx w' : World} {bc br : Nat} {a b c d n s k a' b' c' d' n' s' k' : Int} (H : DR W wx bc br a b c d n s k) (hg : wx.grownBy w' (some bc)) (hc : CT w' bc a' b' c' d' n' s' k') : DR W w' bc br a' b' c' d' n' s' k' := by
  have n0 := H.n0; have n1 := H.n1
  exact ⟨hc, (hg.block br H.rs.lt (by simp; omega)).trans H.rs, below_own H.bel (by omega) hg, n0, n1⟩
theorem DR.set0 {W wx : World} {bc br : Nat} {a b c d n s k : Int} (H : DR W wx bc br a b c d n s k) (v : Int) : DR W (wx.setCell ⟨bc, 0, none⟩ (.int .i64 v)) bc br v b c d n s k :=
  H.grown (grown_set _ _ _ _) (heap_setCell_same wx bc 0 _ _ _ H.ct)
theorem DR.set1 {W wx : World} {bc br : Nat} {a b c d n s k : Int} (H : DR W wx bc br a b c d n s k) (v : Int) : DR W (wx.setCell ⟨bc, 1, none⟩ (.int .i64 v)) bc br a v c d n s k :=
  H.grown (grown_set _ _ _ _) (heap_setCell_same wx bc 1 _ _ _ H.ct)
theorem DR.set2 {W wx : World} {bc br : Nat} {a b c d n s k : Int} (H : DR W wx bc br a b c d n s k) (v : Int) : DR W (wx.setCell ⟨bc, 2, none⟩ (.int .i64 v)) bc br a b v d n s k :=
  H.grown (grown_set _ _ _ _) (heap_setCell_same wx bc 2 _ _ _ H.ct)
theorem DR.set3 {W wx : World} {bc br : Nat} {a b c d n s k : Int} (H : DR W wx bc br a b c d n s k) (v : Int) : DR W (wx.setCell ⟨bc, 3, none⟩ (.int .i64 v)) bc br a b c v n s k :=
  H.grown (grown_set _ _ _ _) (heap_setCell_same wx bc 3 _ _ _ H.ct)

set_option maxHeartbeats 8000000 in
theorem rdecode_c (t : ByteArray) (place : Int) (w : World) :
    Calls Try.prog 19 #[.string t, .int .i64 place] w fun e w' => e = .returned (decV t.data.toList place) ∧ Below w.heap.size w w' := by
  go_enter Try.func19, Try.ntmps19
  obtain ⟨w1, hw1⟩ : ∃ w1, w1 = w.alloc (.cells #[.int .i64 0, .int .i64 0, .int .i64 0, .int .i64 0, .int .i64 0, .int .i64 0, .int .i64 0] 25) := ⟨_, rfl⟩
  obtain ⟨br, hbr⟩ : ∃ br, br = w.heap.size := ⟨_, rfl⟩
  have HB : Hid (Below w.heap.size w w1) := by unfold Hid; rw [hw1]; exact (Below.refl _ w).alloc (Nat.le_refl _) _
  have HC : Hid (CT w1 br 0 0 0 0 0 0 0) := by unfold Hid CT; rw [hw1, hbr]; exact heap_alloc_new w _
  have HN : Hid (w.heap.size ≤ br) := by unfold Hid; omega
  have HL : Hid (t.data.toList.length = t.size) := rfl
  by_cases h64 : t.size = 64
  · have hn : ((t.size : Int) = 64) := by omega
    have HNEW : Hid ((w1.drew.alloc (.cells #[.int .i64 0, .int .i64 0, .int .i64 0, .int .i64 0, .int .i64 0, .int .i64 0, .int .i64 0] 25)).heap[w1.heap.size]? = some (.cells #[.int .i64 0, .int .i64 0, .int .i64 0, .int .i64 0, .int .i64 0, .int .i64 0, .int .i64 0] 25 (0, 0))) := heap_alloc_new w1.drew _
    have HFIN : Hid (∀ w5 : World, w5.heap[w1.heap.size]? = some (.cells #[.int .i64 0, .int .i64 0, .int .i64 0, .int .i64 0, .int .i64 (bn t.data.toList 0 4), .int .i64 (bn t.data.toList 20 6), .int .i64 (bn t.data.toList 26 6)] 25 (0, 0)) →
        (w1.drew.alloc (.cells #[.int .i64 0, .int .i64 0, .int .i64 0, .int .i64 0, .int .i64 0, .int .i64 0, .int .i64 0] 25)).grownBy w5 (some w1.heap.size) → Hid (DR w w5 w1.heap.size br 0 0 0 0 (bn t.data.toList 0 4) (bn t.data.toList 20 6) (bn t.data.toList 26 6))) := fun w5 h1 h2 => by
      have hx : Below w1.heap.size w1 (w1.drew.alloc (.cells #[.int .i64 0, .int .i64 0, .int .i64 0, .int .i64 0, .int .i64 0, .int .i64 0, .int .i64 0] 25)) := ((Below.refl w1.heap.size w1).drew).alloc (Nat.le_refl _) _
      have hz : DR w (w1.drew.alloc (.cells #[.int .i64 0, .int .i64 0, .int .i64 0, .int .i64 0, .int .i64 0, .int .i64 0, .int .i64 0] 25)) w1.heap.size br 0 0 0 0 0 0 0 :=
        ⟨HNEW.out, HC.out.below hx, HB.out.trans (hx.mono HB.out.size), HN.out, HC.out.lt⟩
      exact hz.grown h2 h1
    go_upto_region 3 with (fail)
    rw [← hw1, ← hbr]
    clear hw1 hbr HB HC HN
    go_cut [6] (fun x wx => x = .pointer (some ⟨w1.heap.size, 0, none⟩) ∧ Hid (DR w wx w1.heap.size br 0 0 0 0 (bn t.data.toList 0 4) (bn t.data.toList 20 6) (bn t.data.toList 26 6)))
    case first =>
      refine wp_region_held_drew (S := fun _ => True) (by kernel_rfl) trivial (fun _ => ?_)
      refine take_op (i := 0) (d := some 13) (v := ?_) rfl rfl (by kernel_rfl) (by kernel_rfl) (by kernel_rfl) (fun _ _ _ h => h) (Or.inl ⟨by rfl, ?_⟩) (by assumption) ?_
      rotate_left
      · (intro w' hSw; (try dsimp only at hSw); go_simp; try (with_reducible rfl))
      try simp only [Act.put, List.setIfInBounds_toArray, List.set_cons_zero, List.set_cons_succ]
      refine take_op (i := 1) (d := some 14) (v := ?_) rfl rfl (by kernel_rfl) (by kernel_rfl) (by kernel_rfl) (fun _ _ _ h => h) (Or.inl ⟨by rfl, ?_⟩) (by assumption) ?_
      rotate_left
      · (intro w' hSw; (try dsimp only at hSw); go_simp; try (with_reducible rfl))
      try simp only [Act.put, List.setIfInBounds_toArray, List.set_cons_zero, List.set_cons_succ]
      refine take_op (i := 3) (d := some 16) (v := ?_) rfl rfl (by kernel_rfl) (by kernel_rfl) (by kernel_rfl) (fun _ _ _ h => h) (Or.inl ⟨by rfl, ?_⟩) (by assumption) ?_
      rotate_left
      · (intro w' hSw; (try dsimp only at hSw); go_simp; try (with_reducible rfl))
      try simp only [Act.put, List.setIfInBounds_toArray, List.set_cons_zero, List.set_cons_succ]
      refine take_op (i := 4) (d := some 17) (v := ?_) rfl rfl (by kernel_rfl) (by kernel_rfl) (by kernel_rfl) (fun _ _ _ h => h) (Or.inl ⟨by rfl, ?_⟩) (by assumption) ?_
      rotate_left
      · (intro w' hSw; (try dsimp only at hSw); go_simp; try (with_reducible rfl))
      try simp only [Act.put, List.setIfInBounds_toArray, List.set_cons_zero, List.set_cons_succ]
      refine take_op (i := 6) (d := some 19) (v := ?_) rfl rfl (by kernel_rfl) (by kernel_rfl) (by kernel_rfl) (fun _ _ _ h => h) (Or.inl ⟨by rfl, ?_⟩) (by assumption) ?_
      rotate_left
      · (intro w' hSw; (try dsimp only at hSw); go_simp; try (with_reducible rfl))
      try simp only [Act.put, List.setIfInBounds_toArray, List.set_cons_zero, List.set_cons_succ]
      refine take_op (i := 7) (d := some 20) (v := ?_) rfl rfl (by kernel_rfl) (by kernel_rfl) (by kernel_rfl) (fun _ _ _ h => h) (Or.inl ⟨by rfl, ?_⟩) (by assumption) ?_
      rotate_left
      · (intro w' hSw; (try dsimp only at hSw); go_simp; try (with_reducible rfl))
      try simp only [Act.put, List.setIfInBounds_toArray, List.set_cons_zero, List.set_cons_succ]
      refine wpAnyH_ready (rs := [2, 10]) (by kernel_rfl) (by simp) ?_
      refine AllReadyH.cons rfl (fun K hK => ?_) (AllReadyH.cons rfl (fun K hK => ?_) AllReadyH.nil)
      · go_simp
        refine (rof_sub t 0 4 _ (by omega) (by omega)).mono ?_
        rintro e w9 ⟨rfl, rfl⟩
        refine hK.out _ _ trivial (fun _ => ?_)
        clear hK K
        try simp only [Act.put, List.setIfInBounds_toArray, List.set_cons_zero, List.set_cons_succ]
        refine wpAnyH_ready (rs := [5, 10]) (by kernel_rfl) (by simp) ?_
        refine AllReadyH.cons rfl (fun K hK => ?_) (AllReadyH.cons rfl (fun K hK => ?_) AllReadyH.nil)
        · go_simp
          refine (rof_sub t 20 6 _ (by omega) (by omega)).mono ?_
          rintro e w9 ⟨rfl, rfl⟩
          refine hK.out _ _ trivial (fun _ => ?_)
          clear hK K
          try simp only [Act.put, List.setIfInBounds_toArray, List.set_cons_zero, List.set_cons_succ]
          refine wpAnyH_ready (rs := [8, 10]) (by kernel_rfl) (by simp) ?_
          refine AllReadyH.cons rfl (fun K hK => ?_) (AllReadyH.cons rfl (fun K hK => ?_) AllReadyH.nil)
          · go_simp
            refine (rof_sub t 26 6 _ (by omega) (by omega)).mono ?_
            rintro e w9 ⟨rfl, rfl⟩
            refine hK.out _ _ trivial (fun _ => ?_)
            clear hK K
            try simp only [Act.put, List.setIfInBounds_toArray, List.set_cons_zero, List.set_cons_succ]
            refine take_op (i := 9) (d := some 22) (v := ?_) rfl rfl (by kernel_rfl) (by kernel_rfl) (by kernel_rfl) (fun _ _ _ h => h) (Or.inl ⟨by rfl, ?_⟩) (by assumption) ?_
            rotate_left
            · (intro w' hSw; (try dsimp only at hSw); go_simp; try (with_reducible rfl))
            try simp only [Act.put, List.setIfInBounds_toArray, List.set_cons_zero, List.set_cons_succ]
            refine wpAnyH_ready (rs := [10]) (by kernel_rfl) (by simp) ?_
            refine AllReadyH.cons rfl (fun K hK => ?_) AllReadyH.nil
            · go_simp
              refine hK.out _ _ trivial (fun _ => ?_)
              clear hK K
              try simp only [Act.put, List.setIfInBounds_toArray, List.set_cons_zero, List.set_cons_succ]
              refine wpAnyH_ready (rs := [11]) (by kernel_rfl) (by simp) ?_
              refine AllReadyH.cons rfl (fun K hK => ?_) AllReadyH.nil
              rw [if_pos (by rfl)]
              refine wp_st_row 25 _ _ rfl w1.heap.size rfl _ rfl HNEW.out (by kernel_rfl) rfl (by simp [Value.oneCell']) (fun w5 hp5 hg5 => ?_)
              try simp only [Act.put, List.setIfInBounds_toArray, List.set_cons_zero, List.set_cons_succ]
              refine hK.out _ _ trivial (fun _ => ?_)
              clear hK K
              try simp only [Act.put, List.setIfInBounds_toArray, List.set_cons_zero, List.set_cons_succ]
              refine wpAnyH_done (by kernel_rfl) ?_ _
              have hfin := HFIN.out _ hp5 hg5
              go_wp2_with fail
              go_meet
              exact ⟨rfl, hfin⟩
          · go_simp
            refine hK.out _ _ trivial (fun _ => ?_)
            clear hK K
            try simp only [Act.put, List.setIfInBounds_toArray, List.set_cons_zero, List.set_cons_succ]
            refine wpAnyH_ready (rs := [8]) (by kernel_rfl) (by simp) ?_
            refine AllReadyH.cons rfl (fun K hK => ?_) AllReadyH.nil
            · go_simp
              refine (rof_sub t 26 6 _ (by omega) (by omega)).mono ?_
              rintro e w9 ⟨rfl, rfl⟩
              refine hK.out _ _ trivial (fun _ => ?_)
              clear hK K
              try simp only [Act.put, List.setIfInBounds_toArray, List.set_cons_zero, List.set_cons_succ]
              refine take_op (i := 9) (d := some 22) (v := ?_) rfl rfl (by kernel_rfl) (by kernel_rfl) (by kernel_rfl) (fun _ _ _ h => h) (Or.inl ⟨by rfl, ?_⟩) (by assumption) ?_
              rotate_left
              · (intro w' hSw; (try dsimp only at hSw); go_simp; try (with_reducible rfl))
              try simp only [Act.put, List.setIfInBounds_toArray, List.set_cons_zero, List.set_cons_succ]
              refine wpAnyH_ready (rs := [11]) (by kernel_rfl) (by simp) ?_
              refine AllReadyH.cons rfl (fun K hK => ?_) AllReadyH.nil
              rw [if_pos (by rfl)]
              refine wp_st_row 25 _ _ rfl w1.heap.size rfl _ rfl HNEW.out (by kernel_rfl) rfl (by simp [Value.oneCell']) (fun w5 hp5 hg5 => ?_)
              try simp only [Act.put, List.setIfInBounds_toArray, List.set_cons_zero, List.set_cons_succ]
              refine hK.out _ _ trivial (fun _ => ?_)
              clear hK K
              try simp only [Act.put, List.setIfInBounds_toArray, List.set_cons_zero, List.set_cons_succ]
              refine wpAnyH_done (by kernel_rfl) ?_ _
              have hfin := HFIN.out _ hp5 hg5
              go_wp2_with fail
              go_meet
              exact ⟨rfl, hfin⟩
        · go_simp
          refine hK.out _ _ trivial (fun _ => ?_)
          clear hK K
          try simp only [Act.put, List.setIfInBounds_toArray, List.set_cons_zero, List.set_cons_succ]
          refine wpAnyH_ready (rs := [5]) (by kernel_rfl) (by simp) ?_
          refine AllReadyH.cons rfl (fun K hK => ?_) AllReadyH.nil
          · go_simp
            refine (rof_sub t 20 6 _ (by omega) (by omega)).mono ?_
            rintro e w9 ⟨rfl, rfl⟩
            refine hK.out _ _ trivial (fun _ => ?_)
            clear hK K
            try simp only [Act.put, List.setIfInBounds_toArray, List.set_cons_zero, List.set_cons_succ]
            refine wpAnyH_ready (rs := [8]) (by kernel_rfl) (by simp) ?_
            refine AllReadyH.cons rfl (fun K hK => ?_) AllReadyH.nil
            · go_simp
              refine (rof_sub t 26 6 _ (by omega) (by omega)).mono ?_
              rintro e w9 ⟨rfl, rfl⟩
              refine hK.out _ _ trivial (fun _ => ?_)
              clear hK K
              try simp only [Act.put, List.setIfInBounds_toArray, List.set_cons_zero, List.set_cons_succ]
              refine take_op (i := 9) (d := some 22) (v := ?_) rfl rfl (by kernel_rfl) (by kernel_rfl) (by kernel_rfl) (fun _ _ _ h => h) (Or.inl ⟨by rfl, ?_⟩) (by assumption) ?_
              rotate_left
              · (intro w' hSw; (try dsimp only at hSw); go_simp; try (with_reducible rfl))
              try simp only [Act.put, List.setIfInBounds_toArray, List.set_cons_zero, List.set_cons_succ]
              refine wpAnyH_ready (rs := [11]) (by kernel_rfl) (by simp) ?_
              refine AllReadyH.cons rfl (fun K hK => ?_) AllReadyH.nil
              rw [if_pos (by rfl)]
              refine wp_st_row 25 _ _ rfl w1.heap.size rfl _ rfl HNEW.out (by kernel_rfl) rfl (by simp [Value.oneCell']) (fun w5 hp5 hg5 => ?_)
              try simp only [Act.put, List.setIfInBounds_toArray, List.set_cons_zero, List.set_cons_succ]
              refine hK.out _ _ trivial (fun _ => ?_)
              clear hK K
              try simp only [Act.put, List.setIfInBounds_toArray, List.set_cons_zero, List.set_cons_succ]
              refine wpAnyH_done (by kernel_rfl) ?_ _
              have hfin := HFIN.out _ hp5 hg5
              go_wp2_with fail
              go_meet
              exact ⟨rfl, hfin⟩
      · go_simp
        refine hK.out _ _ trivial (fun _ => ?_)
        clear hK K
        try simp only [Act.put, List.setIfInBounds_toArray, List.set_cons_zero, List.set_cons_succ]
        refine wpAnyH_ready (rs := [2]) (by kernel_rfl) (by simp) ?_
        refine AllReadyH.cons rfl (fun K hK => ?_) AllReadyH.nil
        · go_simp
          refine (rof_sub t 0 4 _ (by omega) (by omega)).mono ?_
          rintro e w9 ⟨rfl, rfl⟩
          refine hK.out _ _ trivial (fun _ => ?_)
          clear hK K
          try simp only [Act.put, List.setIfInBounds_toArray, List.set_cons_zero, List.set_cons_succ]
          refine wpAnyH_ready (rs := [5]) (by kernel_rfl) (by simp) ?_
          refine AllReadyH.cons rfl (fun K hK => ?_) AllReadyH.nil
          · go_simp
            refine (rof_sub t 20 6 _ (by omega) (by omega)).mono ?_
            rintro e w9 ⟨rfl, rfl⟩
            refine hK.out _ _ trivial (fun _ => ?_)
            clear hK K
            try simp only [Act.put, List.setIfInBounds_toArray, List.set_cons_zero, List.set_cons_succ]
            refine wpAnyH_ready (rs := [8]) (by kernel_rfl) (by simp) ?_
            refine AllReadyH.cons rfl (fun K hK => ?_) AllReadyH.nil
            · go_simp
              refine (rof_sub t 26 6 _ (by omega) (by omega)).mono ?_
              rintro e w9 ⟨rfl, rfl⟩
              refine hK.out _ _ trivial (fun _ => ?_)
              clear hK K
              try simp only [Act.put, List.setIfInBounds_toArray, List.set_cons_zero, List.set_cons_succ]
              refine take_op (i := 9) (d := some 22) (v := ?_) rfl rfl (by kernel_rfl) (by kernel_rfl) (by kernel_rfl) (fun _ _ _ h => h) (Or.inl ⟨by rfl, ?_⟩) (by assumption) ?_
              rotate_left
              · (intro w' hSw; (try dsimp only at hSw); go_simp; try (with_reducible rfl))
              try simp only [Act.put, List.setIfInBounds_toArray, List.set_cons_zero, List.set_cons_succ]
              refine wpAnyH_ready (rs := [11]) (by kernel_rfl) (by simp) ?_
              refine AllReadyH.cons rfl (fun K hK => ?_) AllReadyH.nil
              rw [if_pos (by rfl)]
              refine wp_st_row 25 _ _ rfl w1.heap.size rfl _ rfl HNEW.out (by kernel_rfl) rfl (by simp [Value.oneCell']) (fun w5 hp5 hg5 => ?_)
              try simp only [Act.put, List.setIfInBounds_toArray, List.set_cons_zero, List.set_cons_succ]
              refine hK.out _ _ trivial (fun _ => ?_)
              clear hK K
              try simp only [Act.put, List.setIfInBounds_toArray, List.set_cons_zero, List.set_cons_succ]
              refine wpAnyH_done (by kernel_rfl) ?_ _
              have hfin := HFIN.out _ hp5 hg5
              go_wp2_with fail
              go_meet
              exact ⟨rfl, hfin⟩
    case rest =>
      obtain ⟨rfl, hd1⟩ := hcut
      have H1 := Lib.hid hd1.out
      clear hd1 HNEW HFIN
      generalize w1.heap.size = bc at *
      go_upto_region 4 with (fail)
      have H1d : Hid (DR w wc.drew bc br 0 0 0 0 (bn t.data.toList 0 4) (bn t.data.toList 20 6) (bn t.data.toList 26 6)) := H1.out.below (by exact (Below.refl _ _).drew)
      have H5 := Lib.hid ((((H1d.out.set0 (bn t.data.toList 4 4)).set1 (bn t.data.toList 8 4)).set2 (bn t.data.toList 12 4)).set3 (bn t.data.toList 16 4))
      clear H1
      refine wp_region_held_drew (S := fun _ => True) (by kernel_rfl) trivial (fun _ => ?_)
      generalize wc.drew = wd at *
      obtain ⟨c0, c1, c2, c3, c4, c5, c6⟩ := H1d.out.ct.cell
      have f0 := frozen_of_row wd bc 0 _ _ H1d.out.ct
      have f1 := frozen_of_row wd bc 1 _ _ H1d.out.ct
      have f2 := frozen_of_row wd bc 2 _ _ H1d.out.ct
      have f3 := frozen_of_row wd bc 3 _ _ H1d.out.ct
      refine take_op (i := 0) (d := some 23) (v := ?_) rfl rfl (by kernel_rfl) (by kernel_rfl) (by kernel_rfl) (fun _ _ _ h => h) (Or.inl ⟨by rfl, ?_⟩) (by assumption) ?_
      rotate_left
      · (intro w' hSw; (try dsimp only at hSw); go_simp; try (with_reducible rfl))
      try simp only [Act.put, List.setIfInBounds_toArray, List.set_cons_zero, List.set_cons_succ]
      refine take_op (i := 1) (d := some 24) (v := ?_) rfl rfl (by kernel_rfl) (by kernel_rfl) (by kernel_rfl) (fun _ _ _ h => h) (Or.inl ⟨by rfl, ?_⟩) (by assumption) ?_
      rotate_left
      · (intro w' hSw; (try dsimp only at hSw); go_simp; try (with_reducible rfl))
      try simp only [Act.put, List.setIfInBounds_toArray, List.set_cons_zero, List.set_cons_succ]
      refine take_op (i := 3) (d := some 26) (v := ?_) rfl rfl (by kernel_rfl) (by kernel_rfl) (by kernel_rfl) (fun _ _ _ h => h) (Or.inl ⟨by rfl, ?_⟩) (by assumption) ?_
      rotate_left
      · (intro w' hSw; (try dsimp only at hSw); go_simp; try (with_reducible rfl))
      try simp only [Act.put, List.setIfInBounds_toArray, List.set_cons_zero, List.set_cons_succ]
      refine take_op (i := 4) (d := some 27) (v := ?_) rfl rfl (by kernel_rfl) (by kernel_rfl) (by kernel_rfl) (fun _ _ _ h => h) (Or.inl ⟨by rfl, ?_⟩) (by assumption) ?_
      rotate_left
      · (intro w' hSw; (try dsimp only at hSw); go_simp; try (with_reducible rfl))
      try simp only [Act.put, List.setIfInBounds_toArray, List.set_cons_zero, List.set_cons_succ]
      refine take_op (i := 6) (d := some 29) (v := ?_) rfl rfl (by kernel_rfl) (by kernel_rfl) (by kernel_rfl) (fun _ _ _ h => h) (Or.inl ⟨by rfl, ?_⟩) (by assumption) ?_
      rotate_left
      · (intro w' hSw; (try dsimp only at hSw); go_simp; try (with_reducible rfl))
      try simp only [Act.put, List.setIfInBounds_toArray, List.set_cons_zero, List.set_cons_succ]
      refine take_op (i := 7) (d := some 30) (v := ?_) rfl rfl (by kernel_rfl) (by kernel_rfl) (by kernel_rfl) (fun _ _ _ h => h) (Or.inl ⟨by rfl, ?_⟩) (by assumption) ?_
      rotate_left
      · (intro w' hSw; (try dsimp only at hSw); go_simp; try (with_reducible rfl))
      try simp only [Act.put, List.setIfInBounds_toArray, List.set_cons_zero, List.set_cons_succ]
      refine take_op (i := 9) (d := some 32) (v := ?_) rfl rfl (by kernel_rfl) (by kernel_rfl) (by kernel_rfl) (fun _ _ _ h => h) (Or.inl ⟨by rfl, ?_⟩) (by assumption) ?_
      rotate_left
      · (intro w' hSw; (try dsimp only at hSw); go_simp; try (with_reducible rfl))
      try simp only [Act.put, List.setIfInBounds_toArray, List.set_cons_zero, List.set_cons_succ]
      refine take_op (i := 10) (d := some 33) (v := ?_) rfl rfl (by kernel_rfl) (by kernel_rfl) (by kernel_rfl) (fun _ _ _ h => h) (Or.inl ⟨by rfl, ?_⟩) (by assumption) ?_
      rotate_left
      · (intro w' hSw; (try dsimp only at hSw); go_simp; try (with_reducible rfl))
      try simp only [Act.put, List.setIfInBounds_toArray, List.set_cons_zero, List.set_cons_succ]
      refine wpAnyH_ready (rs := [2]) (by kernel_rfl) (by simp) ?_
      refine AllReadyH.cons rfl (fun K hK => ?_) AllReadyH.nil
      go_simp
      refine (rof_sub t 4 4 _ (by omega) (by omega)).mono ?_
      rintro e w9 ⟨rfl, rfl⟩
      refine hK.out _ _ trivial (fun _ => ?_)
      clear hK K
      try simp only [Act.put, List.setIfInBounds_toArray, List.set_cons_zero, List.set_cons_succ]
      refine wpAnyH_ready (rs := [5]) (by kernel_rfl) (by simp) ?_
      refine AllReadyH.cons rfl (fun K hK => ?_) AllReadyH.nil
      go_simp
      refine (rof_sub t 8 4 _ (by omega) (by omega)).mono ?_
      rintro e w9 ⟨rfl, rfl⟩
      refine hK.out _ _ trivial (fun _ => ?_)
      clear hK K
      try simp only [Act.put, List.setIfInBounds_toArray, List.set_cons_zero, List.set_cons_succ]
      refine wpAnyH_ready (rs := [8]) (by kernel_rfl) (by simp) ?_
      refine AllReadyH.cons rfl (fun K hK => ?_) AllReadyH.nil
      go_simp
      refine (rof_sub t 12 4 _ (by omega) (by omega)).mono ?_
      rintro e w9 ⟨rfl, rfl⟩
      refine hK.out _ _ trivial (fun _ => ?_)
      clear hK K
      try simp only [Act.put, List.setIfInBounds_toArray, List.set_cons_zero, List.set_cons_succ]
      refine wpAnyH_ready (rs := [11]) (by kernel_rfl) (by simp) ?_
      refine AllReadyH.cons rfl (fun K hK => ?_) AllReadyH.nil
      go_simp
      refine (rof_sub t 16 4 _ (by omega) (by omega)).mono ?_
      rintro e w9 ⟨rfl, rfl⟩
      refine hK.out _ _ trivial (fun _ => ?_)
      clear hK K
      try simp only [Act.put, List.setIfInBounds_toArray, List.set_cons_zero, List.set_cons_succ]
      refine take_op (i := 12) (d := some 35) (v := ?_) rfl rfl (by kernel_rfl) (by kernel_rfl) (by kernel_rfl) (fun _ _ _ h => h) (Or.inl ⟨by rfl, ?_⟩) (by assumption) ?_
      rotate_left
      · (intro w' hSw; (try dsimp only at hSw); go_simp; try (with_reducible rfl))
      try simp only [Act.put, List.setIfInBounds_toArray, List.set_cons_zero, List.set_cons_succ]
      refine take_op (i := 13) (d := some 36) (v := ?_) rfl rfl (by kernel_rfl) (by kernel_rfl) (by kernel_rfl) (fun _ _ _ h => h) (Or.inl ⟨by rfl, ?_⟩) (by assumption) ?_
      rotate_left
      · (intro w' hSw; (try dsimp only at hSw); go_simp; try (with_reducible rfl))
      try simp only [Act.put, List.setIfInBounds_toArray, List.set_cons_zero, List.set_cons_succ]
      refine wpAnyH_ready (rs := [14]) (by kernel_rfl) (by simp) ?_
      refine AllReadyH.cons rfl (fun K hK => ?_) AllReadyH.nil
      go_simp
      refine hK.out _ _ trivial (fun _ => ?_)
      clear hK K
      try simp only [Act.put, List.setIfInBounds_toArray, List.set_cons_zero, List.set_cons_succ]
      refine wpAnyH_done (by kernel_rfl) ?_ _
      clear c0 c1 c2 c3 c4 c5 c6 f0 f1 f2 f3 H1d
      generalize (((wd.setCell ⟨bc, 0, none⟩ (.int .i64 (bn t.data.toList 4 4))).setCell ⟨bc, 1, none⟩ (.int .i64 (bn t.data.toList 8 4))).setCell ⟨bc, 2, none⟩ (.int .i64 (bn t.data.toList 12 4))).setCell ⟨bc, 3, none⟩ (.int .i64 (bn t.data.toList 16 4)) = w6 at *
      have h64' : t.data.toList.length = 64 := h64
      have HTL : Hid (∀ l' : List UInt8, (⟨l'.toArray⟩ : ByteArray) = t → l' = t.data.toList) := fun l' h => by rw [← h]
      have HTM : Hid (t = ⟨t.data.toList.toArray⟩) := rfl
      obtain ⟨l, hl⟩ : ∃ l, l = t.data.toList := ⟨_, rfl⟩
      rw [← hl] at H5 h64' HTL HTM ⊢
      have HLT : Hid (t.data.toList = l) := hl.symm
      clear hl HL
      have HVN : Hid (okSec l place (bn l 4 4) (bn l 8 4) (bn l 12 4) (bn l 16 4) (bn l 0 4) (bn l 20 6) (bn l 26 6) = false → decV l place = .tuple #[.agg #[.int .i64 0, .int .i64 0, .int .i64 0, .int .i64 0, .int .i64 0, .int .i64 0, .int .i64 0], .int .i64 223]) := fun h => by
        unfold decV decR; rw [if_neg (fun h2 => by rw [h] at h2; exact Bool.noConfusion h2.2)]; rfl
      have HVY : Hid (okSec l place (bn l 4 4) (bn l 8 4) (bn l 12 4) (bn l 16 4) (bn l 0 4) (bn l 20 6) (bn l 26 6) = true → decV l place = .tuple #[.agg #[.int .i64 (bn l 4 4), .int .i64 (bn l 8 4), .int .i64 (bn l 12 4), .int .i64 (bn l 16 4), .int .i64 (bn l 0 4), .int .i64 (bn l 20 6), .int .i64 (bn l 26 6)], .int .i64 0]) := fun h => by
        unfold decV decR; rw [if_pos ⟨h64', h⟩]; rfl
      generalize bn l 4 4 = a, bn l 8 4 = b, bn l 12 4 = c, bn l 16 4 = d, bn l 0 4 = n, bn l 20 6 = s, bn l 26 6 = k at *
      clear h64 h64' hn
      obtain ⟨c0, c1, c2, c3, c4, c5, c6⟩ := H5.out.ct.cell
      go_wp2_with fail
      clear c0 c1 c2 c3 c4 c5 c6
      refine (rencode_c a b c d n s k w6).mono ?_
      rintro e wB ⟨rfl, hbB⟩
      have HB := Lib.hid (H5.out.below hbB)
      clear hbB H5
      have hrs := HB.out.rs
      have hcs := HB.out.ct.cell
      obtain ⟨c0, c1, c2, c3, c4, c5, c6⟩ := hcs
      cases hok : okCtl a b c d n s k
      · rw [encV_no hok]
        have HV := Lib.hid (HVN.out (by unfold okSec; rw [hok]; rfl))
        clear hok HVN HVY
        go_wp2_with (refine wpList_st_row rfl 25 _ _ rfl br rfl _ rfl hrs (by kernel_rfl) rfl (by simp [Value.oneCell']) (fun w2 hp2 hg2 => ?_); have P2 := Lib.hid hp2; have B2 := Lib.hid (below_own HB.out.bel HB.out.n0 hg2); clear hp2 hg2)
        refine ret_cell rfl br _ _ _ _ rfl P2.out Try.underlying25 rfl (by kernel_rfl) rfl ?_
        rw [HLT.out, HV.out]
        exact ⟨rfl, B2.out⟩
      · rw [encV_yes hok]
        obtain ⟨_, hn1, _, _⟩ := okCtl_bd hok
        have HAN := Lib.hid (and_one n (by omega) hn1.2)
        obtain ⟨z, hz⟩ : ∃ z : ByteArray, z = ⟨(encL a b c d n s k).toArray⟩ := ⟨_, rfl⟩
        rw [← hz]
        by_cases hzt : z = t
        · have hel := HTL.out _ (hz.symm.trans hzt)
          subst hzt
          cases hp : (n % 2 == place)
          · have HV := Lib.hid (HVN.out (by unfold okSec; rw [HAN.out, hp]; simp))
            have hp' : (n % 2 != place) = true := by rw [bne, hp]; rfl
            clear hok HVN HVY hz hel hp
            go_wp2_with (refine wpList_st_row rfl 25 _ _ rfl br rfl _ rfl hrs (by kernel_rfl) rfl (by simp [Value.oneCell']) (fun w2 hp2 hg2 => ?_); have P2 := Lib.hid hp2; have B2 := Lib.hid (below_own HB.out.bel HB.out.n0 hg2); clear hp2 hg2)
            refine ret_cell rfl br _ _ _ _ rfl P2.out Try.underlying25 rfl (by kernel_rfl) rfl ?_
            rw [HLT.out, HV.out]
            exact ⟨rfl, B2.out⟩
          · have HV := Lib.hid (HVY.out (by unfold okSec; rw [hok, HAN.out, hp, hel]; simp))
            have hp' : (n % 2 != place) = false := by rw [bne, hp]; rfl
            clear hok HVN HVY hz hel hp
            go_wp2_with (refine wpList_st_row rfl 25 _ _ rfl br rfl _ rfl hrs (by kernel_rfl) rfl (by simp [Value.oneCell']) (fun w2 hp2 hg2 => ?_); have P2 := Lib.hid hp2; have B2 := Lib.hid (below_own HB.out.bel HB.out.n0 hg2); clear hp2 hg2)
            refine ret_cell rfl br _ _ _ _ rfl P2.out Try.underlying25 rfl (by kernel_rfl) rfl ?_
            rw [HLT.out, HV.out]
            exact ⟨rfl, B2.out⟩
        · have hne : ¬ encL a b c d n s k = l := fun h => hzt (by rw [hz, h]; exact HTM.out.symm)
          have HV := Lib.hid (HVN.out (by unfold okSec; rw [decide_eq_false hne]; simp))
          have hzn : ¬ z.toList = t.toList := fun h => hzt (by rw [ByteArray.toList_eq, ByteArray.toList_eq] at h; exact ByteArray.ext (Array.ext' h))
          clear hok HVN HVY hz hne
          go_wp2_with (refine wpList_st_row rfl 25 _ _ rfl br rfl _ rfl hrs (by kernel_rfl) rfl (by simp [Value.oneCell']) (fun w2 hp2 hg2 => ?_); have P2 := Lib.hid hp2; have B2 := Lib.hid (below_own HB.out.bel HB.out.n0 hg2); clear hp2 hg2)
          refine ret_cell rfl br _ _ _ _ rfl P2.out Try.underlying25 rfl (by kernel_rfl) rfl ?_
          rw [HLT.out, HV.out]
          exact ⟨rfl, B2.out⟩
  · have hn : ¬ ((t.size : Int) = 64) := by omega
    have HV : Hid (decV t.data.toList place = .tuple #[.agg #[.int .i64 0, .int .i64 0, .int .i64 0, .int .i64 0, .int .i64 0, .int .i64 0, .int .i64 0], .int .i64 223]) := by
      unfold Hid decV decR; rw [if_neg (fun h => h64 (by rw [← HL.out]; exact h.1))]; rfl
    go_wp2_with fail
    rw [← hw1]
    refine ret_cell rfl br _ _ _ _ (by rw [hbr]; rfl) HC.out Try.underlying25 rfl (by kernel_rfl) rfl ?_
    rw [HV.out]
    exact ⟨rfl, HB.out⟩
end Go.Proofs.Ytbhiijjnobcmoaa
