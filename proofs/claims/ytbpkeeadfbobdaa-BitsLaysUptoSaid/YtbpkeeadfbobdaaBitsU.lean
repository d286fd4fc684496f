/- The walk of BitsLays. -/
import Derived.Test.YtbpkeeadfbobdaaBitsT
namespace Go.Proofs.Ytbpkeeadfbobdaa
open Go.RowKit Go.Deep Go.ChangeShapes Go.WideShapes Go.ChangeAt
set_option linter.unusedSimpArgs false

theorem own_touch {w w' : World} {b B n : Nat} {ob : Option Nat} {e : TypeId} {sz : Nat} {v : Value} {xs : List Value} (h : w.ownsRow B e sz v n xs) (ht : Touch b ob w w') (h1 : v.ownBlock ≠ some b) (h2 : v.ownBlock = none ∨ v.ownBlock ≠ ob) : w'.ownsRow B e sz v n xs := by
  refine ⟨h.1, ?_⟩
  rcases h.2 with h0 | ⟨g, cap, cur, rfl, hB, hg, r⟩
  · exact .inl h0
  · refine .inr ⟨g, cap, cur, rfl, hB, (ht.block g ?_ ?_ ?_).trans hg, r⟩
    · exact (Array.getElem?_eq_some_iff.1 hg).1
    · intro e; exact h1 (by rw [← e]; rfl)
    · intro e; rcases h2 with h2 | h2
      · cases h2
      · exact h2 e
theorem WrV.touched {w w' : World} {bw B b : Nat} {ob : Option Nat} {e : TypeId} {v : Value} {l : List UInt8} (h : WrV w bw B e v l) (ht : Touch b ob w w') (h1 : bw ≠ b) (h2 : some bw ≠ ob) (h3 : v.ownBlock ≠ some b) (h4 : v.ownBlock = none ∨ v.ownBlock ≠ ob) : WrV w' bw B e v l := by
  have hk := ht.block bw (by have := h.lt; have := h.le; omega) h1 h2
  exact ⟨ht.at h.cell h1 h2, (World.frozen?_of_block (a := ⟨bw, 0, none⟩) hk).trans h.fr, own_touch h.own ht h3 h4, h.lt, Nat.le_trans h.le ht.size⟩

/-- Two writers. -/
structure Ly (W wr : World) (bv bw B : Nat) (vv vw : Value) (lv lw : List UInt8) : Prop where
  v : Wr1 W wr bv B vv lv
  w : Wr1 W wr bw B vw lw
  ne : bv ≠ bw
  dis : vv.ownBlock = none ∨ vv.ownBlock ≠ vw.ownBlock
theorem Ly.symm {W wr : World} {bv bw B : Nat} {vv vw : Value} {lv lw : List UInt8} (h : Ly W wr bv bw B vv vw lv lw) : Ly W wr bw bv B vw vv lw lv :=
  ⟨h.w, h.v, fun e => h.ne e.symm, by
    rcases h.dis with h1 | h1
    · cases hv : vw.ownBlock with
      | none => exact .inl rfl
      | some g => right; rw [h1]; simp
    · exact .inr (fun e => h1 e.symm)⟩
theorem Ly.below {W wr w' : World} {bv bw B : Nat} {vv vw : Value} {lv lw : List UInt8} (h : Ly W wr bv bw B vv vw lv lw) (hb : Below wr.heap.size wr w') : Ly W w' bv bw B vv vw lv lw :=
  ⟨h.v.below hb, h.w.below hb, h.ne, h.dis⟩
theorem Ly.set {W wr w' : World} {bv bw B : Nat} {vv vw vv' : Value} {lv lw lv' : List UInt8} (h : Ly W wr bv bw B vv vw lv lw) (hs : WS wr vv bv B 5 w' vv' lv') : Ly W w' bv bw B vv' vw lv' lw := by
  have h1 := h.v.wv.lt
  have h2 := h.w.wv.lt
  refine ⟨h.v.step hs, ⟨h.w.wv.touched hs.touch (fun e => h.ne e.symm) (fun e => by have := h.v.wv.ownGe bw e.symm; omega) (fun e => by have := h.w.wv.ownGe bv e; omega) h.symm.dis, h.v.bel.trans (h.v.touch hs), h.w.n1⟩, h.ne, ?_⟩
  rcases hs.nob with h3 | ⟨g, hg, hge⟩
  · rw [h3]; exact h.dis
  · right
    rw [hg]
    intro e
    have := (h.w.wv.own.lt g e.symm).2
    omega

theorem rnum1_c (x : Int) (w0 w : World) (hw : w = w0.alloc (.cells #[.int .i64 x] 3)) (hx : x ≤ 9223372036854775807) :
    Calls Try.prog 20 #[.slice (some ⟨w0.heap.size, 0, none⟩) 1 1] w fun e w' => e = .returned (.string ⟨(sev x.toNat).toArray⟩) ∧ Below w0.heap.size w0 w' := by
  subst hw
  refine (rnum_c [x] (some ⟨w0.heap.size, 0, none⟩) 1 _ ?_ ?_ (by simp)).mono ?_
  · intro z hz; simp at hz; omega
  · intro j z hj
    match j, hj with
    | 0, hj => simp at hj; subst hj; exact ⟨_, rfl, by simp [Addr.add]⟩
    | (j + 1), hj => simp at hj
  · rintro e w1 ⟨rfl, hb⟩
    exact ⟨by rw [sevs_one], ((Below.refl _ w0).alloc (Nat.le_refl _) _).trans (hb.mono (by simp))⟩
theorem num_none (bw cap : Nat) (ao : Option Addr) (w : World) :
    Calls Try.prog 19 #[.pointer (some ⟨bw, 0, none⟩), .slice ao 0 cap] w fun e w' => e = .returned (.tuple #[]) ∧ w = w' := by
  go_enter Try.func19, Try.ntmps19
  go_wp2_with fail
  go_loop [10] (fun i => i = .int .i64 0) (fun _ => 0)
  case atStart => rfl
  case round =>
    subst hrel
    go_wp2_with fail
    go_returns
    exact ⟨rfl, rfl⟩
/-- A list of numbers lies in memory. -/
def IntsIn (w : World) (ao : Option Addr) (ns : List Int) : Prop := ∀ j z, ns[j]? = some z → ∃ b off, ao = some ⟨b, off, none⟩ ∧ w.cell? ⟨b, off + j, none⟩ = some (.int .i64 z)

theorem num_list (W wr : World) (bw B : Nat) (v : Value) (l : List UInt8) (ns : List Int) (ao : Option Addr) (cap : Nat) (h : Wr1 W wr bw B v l) (hns : ∀ z ∈ ns, z ≤ 9223372036854775807) (hin : IntsIn W ao ns) (hlen : l.length + 9 * ns.length ≤ 140737488355328) :
    Calls Try.prog 19 #[.pointer (some ⟨bw, 0, none⟩), .slice ao ns.length cap] wr fun e w' => e = .returned (.tuple #[]) ∧ ∃ v', WS wr v bw B 5 w' v' (l ++ sevs ns) := by
  cases hc : ns with
  | nil =>
    refine (num_none bw cap ao wr).mono ?_
    rintro e w' ⟨rfl, rfl⟩
    exact ⟨rfl, v, by rw [show l ++ sevs [] = l by simp [sevs]]; exact WS.start h.wv⟩
  | cons z r =>
    rw [← hc]
    obtain ⟨b, off, rfl, hz⟩ := hin 0 z (by rw [hc]; rfl)
    have hlt : b < W.heap.size := World.block_lt_of_cell? W _ hz
    have h1 := h.n1
    have h2 := h.wv.lt
    refine num_c bw B v l ns _ cap wr h.wv hns ?_ ?_ hlen
    · intro j y hj
      obtain ⟨b', off', e, hy⟩ := hin j y hj
      injection e with e; injection e with e1 e2
      subst e1; subst e2
      exact ⟨_, rfl, by rw [add_plain]; exact (h.bel.cell (p := ⟨b, off + j, none⟩) hlt).trans hy⟩
    · rintro ad ⟨⟩
      exact ⟨by show b ≠ bw; omega, fun e => by have := h.wv.ownGe b e.symm; omega⟩
theorem rnum_list (W wr : World) (ns : List Int) (ao : Option Addr) (cap : Nat) (h : Below W.heap.size W wr) (hns : ∀ z ∈ ns, z ≤ 9223372036854775807) (hin : IntsIn W ao ns) (hlen : 9 * ns.length ≤ 140737488355328) :
    Calls Try.prog 20 #[.slice ao ns.length cap] wr fun e w' => e = .returned (.string ⟨(sevs ns).toArray⟩) ∧ Below wr.heap.size wr w' := by
  refine rnum_c ns ao cap wr hns ?_ hlen
  intro j y hj
  obtain ⟨b, off, e, hy⟩ := hin j y hj
  exact ⟨_, e, by rw [add_plain]; exact (h.cell (p := ⟨b, off + j, none⟩) (World.block_lt_of_cell? W _ hy)).trans hy⟩

set_option maxRecDepth 100000 in
set_option maxHeartbeats 8000000 in
theorem bitsLays_w (ao : Option Addr) (len cap : Nat) (K N : Nat → Int) (S : Nat → ByteArray) (ns : List Int) (ao2 : Option Addr) (cap2 : Nat) (w : World) (hb : itot S len ≤ 1048576) (hit : ItemsIn w ao len K N S) (hN : ∀ i, i < len → N i ≤ 9223372036854775807 ∧ (S i).size ≤ 9223372036854775807)
    (hn : ns.length ≤ 1048576) (hns : ∀ z ∈ ns, z ≤ 9223372036854775807) (hin : IntsIn w ao2 ns) :
    Calls Try.prog 5 #[.slice ao len cap, .slice ao2 ns.length cap2] w fun e w' => e = .returned (.bool true) ∧ Below w.heap.size w w' := by
  have HIT := Lib.hid hit
  have hlen : len ≤ 1048576 := Nat.le_trans (itot_len S len) hb
  have HN := Lib.hid hN
  have HIB := Lib.hid hb
  have HNS := Lib.hid hns
  have HIN := Lib.hid hin
  clear hit hN hb hns hin
  go_enter Try.func5, Try.ntmps5
  go_wp2_with fail
  refine (new_c _).mono ?_
  rintro e w1 ⟨rfl, hw1, hb1, hz1⟩
  have HW1 := Lib.hid hw1
  have HB1 := Lib.hid hb1
  have HZ1 := Lib.hid hz1
  clear hw1 hb1 hz1
  go_wp2_with fail
  refine (new_c _).mono ?_
  rintro e w2 ⟨rfl, hw2, hb2, hz2⟩
  have HS : Hid (Ly w w2 w.heap.size w1.heap.size w2.heap.size (.slice none 0 0) (.slice none 0 0) [] []) := by
    have h1 := HW1.out.below hb2
    have h2 := HB1.out.size
    have h3 := HZ1.out
    exact ⟨⟨⟨h1.cell, h1.fr, World.ownsRow_nil _ _ _ 1, by omega, Nat.le_refl _⟩, HB1.out.trans (hb2.mono h2), Nat.le_refl _⟩, ⟨hw2, HB1.out.trans (hb2.mono h2), h2⟩, by omega, .inl rfl⟩
  obtain ⟨bv, hbv⟩ : ∃ bv, bv = w.heap.size := ⟨_, rfl⟩
  obtain ⟨bw, hbw⟩ : ∃ bw, bw = w1.heap.size := ⟨_, rfl⟩
  obtain ⟨B, hB⟩ : ∃ B, B = w2.heap.size := ⟨_, rfl⟩
  rw [← hbv, ← hbw]
  have HS1 : Hid (Ly w w2 bv bw B (.slice none 0 0) (.slice none 0 0) [] []) := by rw [hbv, hbw, hB]; exact HS
  clear HS hbv hbw hB hw2 hb2 hz2 HW1 HB1 HZ1 w1
  go_wp2_with fail
  go_loopw [7, 8, 9] (fun a b i wr => ∃ (k : Nat) (lv lw : List UInt8), k ≤ len ∧ a = .string ⟨lv.toArray⟩ ∧ b = .string ⟨lw.toArray⟩ ∧ i = .int .i64 k ∧ Hid (∃ vv vw, Ly w wr bv bw B vv vw lv lw) ∧ Hid (lv.length + lw.length ≤ 9 * itot S k)) (fun _ _ i _ => len - (intOf i).toNat)
  case atStart => exact ⟨0, [], [], Nat.zero_le _, rfl, rfl, rfl, ⟨_, _, HS1.out⟩, by unfold Hid; simp⟩
  case round =>
    obtain ⟨k, lv, lw, hk, rfl, rfl, rfl, HR, HLT⟩ := hrel
    obtain ⟨vv, vw, hT⟩ := HR.out
    have HT := Lib.hid hT
    clear hT HR HS1
    by_cases hlt : k < len
    · obtain ⟨b, off, hao, q0, q1, q2⟩ := HIT.out k hlt
      have r0 := (HT.out.v.bel.cell (p := ⟨b, off + k * 3, none⟩) (World.block_lt_of_cell? w _ q0)).trans q0
      have r1 := (HT.out.v.bel.cell (p := ⟨b, off + k * 3 + 1, none⟩) (World.block_lt_of_cell? w _ q1)).trans q1
      have r2 := (HT.out.v.bel.cell (p := ⟨b, off + k * 3 + 2, none⟩) (World.block_lt_of_cell? w _ q2)).trans q2
      rw [hao]
      clear hao q0 q1 q2
      have HNK := Lib.hid (HN.out k hlt)
      have HIK := Lib.hid (Nat.le_trans (itot_at S hlt) HIB.out)
      have HKS : Hid (itot S (k + 1) = itot S k + ((S k).size + 1)) := rfl
      generalize K k = q at r0
      generalize N k = z at r1 HNK
      generalize S k = t at r2 HNK HIK HKS
      have hbs : ∀ l m : List UInt8, (⟨l.toArray⟩ : ByteArray) ++ ⟨m.toArray⟩ = ⟨(l ++ m).toArray⟩ := fun l m => by rw [bs_append, List.toList_toArray]
      have HBS := Lib.hid hbs
      clear hbs
      obtain ⟨wx, hwx⟩ : ∃ wx, wx = wr.alloc (.cells #[.int .u8 q, .int .i64 z, .string t] 34) := ⟨_, rfl⟩
      obtain ⟨bx, hbx⟩ : ∃ bx, bx = wr.heap.size := ⟨_, rfl⟩
      have HX : Hid (Ly w wx bv bw B vv vw lv lw) := by rw [hwx]; exact HT.out.below ((Below.refl _ wr).alloc (Nat.le_refl _) _)
      have hxs : wx.heap.size = bx + 1 := by rw [hwx, hbx]; simp
      have cx1 : wx.cell? ⟨bx, 1, none⟩ = some (.int .i64 z) := by rw [hwx, hbx]; simp [go_sem]
      have cx2 : wx.cell? ⟨bx, 2, none⟩ = some (.string t) := by rw [hwx, hbx]; simp [go_sem]
      have HBXV : Hid (bx ≠ bv ∧ some bx ≠ vv.ownBlock) := ⟨by have := HT.out.v.wv.lt; have := HT.out.v.wv.le; omega, fun e => by have := (HT.out.v.wv.own.lt bx e.symm).2; omega⟩
      have HBXW : Hid (bx ≠ bw ∧ some bx ≠ vw.ownBlock) := ⟨by have := HT.out.w.wv.lt; have := HT.out.w.wv.le; omega, fun e => by have := (HT.out.w.wv.own.lt bx e.symm).2; omega⟩
      have HXS := Lib.hid hxs
      have HWX := Lib.hid hwx
      have HBX := Lib.hid hbx
      have HC1 := Lib.hid cx1
      have HC2 := Lib.hid cx2
      clear hwx hxs hbx cx1 cx2
      by_cases p2 : ((k : Int) % 2 == 0) = true
      · by_cases h4 : (k : Int) % 4 = 0
        · skip
          by_cases t0 : (q.tmod 3 == 0) = true
          · skip
            go_wp2_with fail
            rw [← HWX.out, ← HBX.out]
            have C1 := Lib.hid (num1_c bv B vv lv z wx _ HX.out.v.wv rfl HNK.out.1 (by have := HLT.out; have := HIK.out; omega))
            rw [HXS.out] at C1
            refine C1.out.mono ?_
            rintro e w4 ⟨rfl, v', hs4⟩
            have c4 := hs4.at HC1.out HBXV.out.1 HBXV.out.2
            have H4 := Lib.hid (HX.out.set hs4)
            clear hs4 C1
            go_wp2_with fail
            refine (rnum1_c z w4 _ rfl HNK.out.1).mono ?_
            rintro e w5 ⟨rfl, hb5⟩
            have H5 := Lib.hid (H4.out.below hb5)
            clear hb5 c4
            have HM : Hid ((sev z.toNat).length ≤ 9 * (t.size + 1)) := by have := sev_len (n := z.toNat) (by have := HNK.out.1; omega); unfold Hid; omega
            generalize sev z.toNat = m at H5 HM ⊢
            have HLN : Hid ((lv ++ m).length + lw.length ≤ 9 * itot S (k + 1)) := by have := HLT.out; have := HM.out; have := HKS.out; unfold Hid; rw [List.length_append]; omega
            have hcl : lv.length + m.length ≤ 9223372036854775807 := by have := HLT.out; have := HM.out; have := HIK.out; omega
            have hbs1 := HBS.out lv m
            go_wp2_with fail
            refine (bytes_c bv B v' _ _ H5.out.v.wv).mono ?_
            rintro e w6 ⟨rfl, rfl⟩
            go_wp2_with fail
            go_roundw
            case rel => exact ⟨k + 1, lv ++ m, lw, by omega, rfl, rfl, by go_num, ⟨v', vw, H5.out⟩, HLN.out⟩
            case measure => simp [intOf]; omega
          · by_cases t1 : (q.tmod 3 == 1) = true
            · skip
              go_wp2_with fail
              rw [← HWX.out, ← HBX.out]
              refine (text_c bv B vv lv t wx HX.out.v.wv (by have := HIK.out; omega) (by have := HLT.out; have := HIK.out; omega)).mono ?_
              rintro e w4 ⟨rfl, v', hs4⟩
              have c4 := hs4.at HC2.out HBXV.out.1 HBXV.out.2
              have H4 := Lib.hid (HX.out.set hs4)
              clear hs4
              go_wp2_with fail
              refine (rtext_c t w4 (by have := HIK.out; omega)).mono ?_
              rintro e w5 ⟨rfl, hb5⟩
              have H5 := Lib.hid (H4.out.below hb5)
              clear hb5 c4
              have HM : Hid ((txl t).length ≤ 9 * (t.size + 1)) := by have := txl_len (s := t) HNK.out.2; unfold Hid; omega
              generalize txl t = m at H5 HM ⊢
              have HLN : Hid ((lv ++ m).length + lw.length ≤ 9 * itot S (k + 1)) := by have := HLT.out; have := HM.out; have := HKS.out; unfold Hid; rw [List.length_append]; omega
              have hcl : lv.length + m.length ≤ 9223372036854775807 := by have := HLT.out; have := HM.out; have := HIK.out; omega
              have hbs1 := HBS.out lv m
              go_wp2_with fail
              refine (bytes_c bv B v' _ _ H5.out.v.wv).mono ?_
              rintro e w6 ⟨rfl, rfl⟩
              go_wp2_with fail
              go_roundw
              case rel => exact ⟨k + 1, lv ++ m, lw, by omega, rfl, rfl, by go_num, ⟨v', vw, H5.out⟩, HLN.out⟩
              case measure => simp [intOf]; omega
            · skip
              have H5 := Lib.hid HX.out
              have HLN : Hid (lv.length + lw.length ≤ 9 * itot S (k + 1)) := by have := HLT.out; have := HKS.out; unfold Hid; omega
              have hcl0 : ¬ (9223372036854775807 < lv.length) := by have := HLT.out; have := HIK.out; omega
              have hbs1 : (⟨lv.toArray⟩ : ByteArray) ++ ⟨#[]⟩ = ⟨lv.toArray⟩ := by have := HBS.out lv []; simpa using this
              go_wp2_with fail
              try rw [← HWX.out]
              refine (bytes_c bv B vv _ _ H5.out.v.wv).mono ?_
              rintro e w6 ⟨rfl, rfl⟩
              go_wp2_with fail
              go_roundw
              case rel => exact ⟨k + 1, lv, lw, by omega, rfl, rfl, by go_num, ⟨vv, vw, by first | exact H5.out | (rw [← HWX.out]; exact H5.out)⟩, HLN.out⟩
              case measure => simp [intOf]; omega
        · skip
          by_cases t0 : (q.tmod 3 == 0) = true
          · skip
            go_wp2_with fail
            rw [← HWX.out, ← HBX.out]
            have C1 := Lib.hid (num1_c bv B vv lv z wx _ HX.out.v.wv rfl HNK.out.1 (by have := HLT.out; have := HIK.out; omega))
            rw [HXS.out] at C1
            refine C1.out.mono ?_
            rintro e w4 ⟨rfl, v', hs4⟩
            have c4 := hs4.at HC1.out HBXV.out.1 HBXV.out.2
            have H4 := Lib.hid (HX.out.set hs4)
            clear hs4 C1
            go_wp2_with fail
            refine (rnum1_c z w4 _ rfl HNK.out.1).mono ?_
            rintro e w5 ⟨rfl, hb5⟩
            have H5 := Lib.hid (H4.out.below hb5)
            clear hb5 c4
            have HM : Hid ((sev z.toNat).length ≤ 9 * (t.size + 1)) := by have := sev_len (n := z.toNat) (by have := HNK.out.1; omega); unfold Hid; omega
            generalize sev z.toNat = m at H5 HM ⊢
            have HLN : Hid ((lv ++ m).length + lw.length ≤ 9 * itot S (k + 1)) := by have := HLT.out; have := HM.out; have := HKS.out; unfold Hid; rw [List.length_append]; omega
            have hcl : lv.length + m.length ≤ 9223372036854775807 := by have := HLT.out; have := HM.out; have := HIK.out; omega
            have hbs1 := HBS.out lv m
            go_wp2_with fail
            go_roundw
            case rel => exact ⟨k + 1, lv ++ m, lw, by omega, rfl, rfl, by go_num, ⟨v', vw, H5.out⟩, HLN.out⟩
            case measure => simp [intOf]; omega
          · by_cases t1 : (q.tmod 3 == 1) = true
            · skip
              go_wp2_with fail
              rw [← HWX.out, ← HBX.out]
              refine (text_c bv B vv lv t wx HX.out.v.wv (by have := HIK.out; omega) (by have := HLT.out; have := HIK.out; omega)).mono ?_
              rintro e w4 ⟨rfl, v', hs4⟩
              have c4 := hs4.at HC2.out HBXV.out.1 HBXV.out.2
              have H4 := Lib.hid (HX.out.set hs4)
              clear hs4
              go_wp2_with fail
              refine (rtext_c t w4 (by have := HIK.out; omega)).mono ?_
              rintro e w5 ⟨rfl, hb5⟩
              have H5 := Lib.hid (H4.out.below hb5)
              clear hb5 c4
              have HM : Hid ((txl t).length ≤ 9 * (t.size + 1)) := by have := txl_len (s := t) HNK.out.2; unfold Hid; omega
              generalize txl t = m at H5 HM ⊢
              have HLN : Hid ((lv ++ m).length + lw.length ≤ 9 * itot S (k + 1)) := by have := HLT.out; have := HM.out; have := HKS.out; unfold Hid; rw [List.length_append]; omega
              have hcl : lv.length + m.length ≤ 9223372036854775807 := by have := HLT.out; have := HM.out; have := HIK.out; omega
              have hbs1 := HBS.out lv m
              go_wp2_with fail
              go_roundw
              case rel => exact ⟨k + 1, lv ++ m, lw, by omega, rfl, rfl, by go_num, ⟨v', vw, H5.out⟩, HLN.out⟩
              case measure => simp [intOf]; omega
            · skip
              have H5 := Lib.hid HX.out
              have HLN : Hid (lv.length + lw.length ≤ 9 * itot S (k + 1)) := by have := HLT.out; have := HKS.out; unfold Hid; omega
              have hcl0 : ¬ (9223372036854775807 < lv.length) := by have := HLT.out; have := HIK.out; omega
              have hbs1 : (⟨lv.toArray⟩ : ByteArray) ++ ⟨#[]⟩ = ⟨lv.toArray⟩ := by have := HBS.out lv []; simpa using this
              go_wp2_with fail
              try rw [← HWX.out]
              go_roundw
              case rel => exact ⟨k + 1, lv, lw, by omega, rfl, rfl, by go_num, ⟨vv, vw, by first | exact H5.out | (rw [← HWX.out]; exact H5.out)⟩, HLN.out⟩
              case measure => simp [intOf]; omega
      · have h4 : ¬ ((k : Int) % 4 = 0) := by intro h; apply p2; rw [beq_iff_eq]; omega
        by_cases t0 : (q.tmod 3 == 0) = true
        · skip
          go_wp2_with fail
          rw [← HWX.out, ← HBX.out]
          have C1 := Lib.hid (num1_c bw B vw lw z wx _ HX.out.w.wv rfl HNK.out.1 (by have := HLT.out; have := HIK.out; omega))
          rw [HXS.out] at C1
          refine C1.out.mono ?_
          rintro e w4 ⟨rfl, v', hs4⟩
          have c4 := hs4.at HC1.out HBXW.out.1 HBXW.out.2
          have H4 := Lib.hid ((HX.out.symm.set hs4).symm)
          clear hs4 C1
          go_wp2_with fail
          refine (rnum1_c z w4 _ rfl HNK.out.1).mono ?_
          rintro e w5 ⟨rfl, hb5⟩
          have H5 := Lib.hid (H4.out.below hb5)
          clear hb5 c4
          have HM : Hid ((sev z.toNat).length ≤ 9 * (t.size + 1)) := by have := sev_len (n := z.toNat) (by have := HNK.out.1; omega); unfold Hid; omega
          generalize sev z.toNat = m at H5 HM ⊢
          have HLN : Hid (lv.length + (lw ++ m).length ≤ 9 * itot S (k + 1)) := by have := HLT.out; have := HM.out; have := HKS.out; unfold Hid; rw [List.length_append]; omega
          have hcl : lw.length + m.length ≤ 9223372036854775807 := by have := HLT.out; have := HM.out; have := HIK.out; omega
          have hbs1 := HBS.out lw m
          go_wp2_with fail
          go_roundw
          case rel => exact ⟨k + 1, lv, lw ++ m, by omega, rfl, rfl, by go_num, ⟨vv, v', H5.out⟩, HLN.out⟩
          case measure => simp [intOf]; omega
        · by_cases t1 : (q.tmod 3 == 1) = true
          · skip
            go_wp2_with fail
            rw [← HWX.out, ← HBX.out]
            refine (text_c bw B vw lw t wx HX.out.w.wv (by have := HIK.out; omega) (by have := HLT.out; have := HIK.out; omega)).mono ?_
            rintro e w4 ⟨rfl, v', hs4⟩
            have c4 := hs4.at HC2.out HBXW.out.1 HBXW.out.2
            have H4 := Lib.hid ((HX.out.symm.set hs4).symm)
            clear hs4
            go_wp2_with fail
            refine (rtext_c t w4 (by have := HIK.out; omega)).mono ?_
            rintro e w5 ⟨rfl, hb5⟩
            have H5 := Lib.hid (H4.out.below hb5)
            clear hb5 c4
            have HM : Hid ((txl t).length ≤ 9 * (t.size + 1)) := by have := txl_len (s := t) HNK.out.2; unfold Hid; omega
            generalize txl t = m at H5 HM ⊢
            have HLN : Hid (lv.length + (lw ++ m).length ≤ 9 * itot S (k + 1)) := by have := HLT.out; have := HM.out; have := HKS.out; unfold Hid; rw [List.length_append]; omega
            have hcl : lw.length + m.length ≤ 9223372036854775807 := by have := HLT.out; have := HM.out; have := HIK.out; omega
            have hbs1 := HBS.out lw m
            go_wp2_with fail
            go_roundw
            case rel => exact ⟨k + 1, lv, lw ++ m, by omega, rfl, rfl, by go_num, ⟨vv, v', H5.out⟩, HLN.out⟩
            case measure => simp [intOf]; omega
          · skip
            have H5 := Lib.hid HX.out
            have HLN : Hid (lv.length + lw.length ≤ 9 * itot S (k + 1)) := by have := HLT.out; have := HKS.out; unfold Hid; omega
            have hcl0 : ¬ (9223372036854775807 < lw.length) := by have := HLT.out; have := HIK.out; omega
            have hbs1 : (⟨lw.toArray⟩ : ByteArray) ++ ⟨#[]⟩ = ⟨lw.toArray⟩ := by have := HBS.out lw []; simpa using this
            go_wp2_with fail
            try rw [← HWX.out]
            go_roundw
            case rel => exact ⟨k + 1, lv, lw, by omega, rfl, rfl, by go_num, ⟨vv, vw, by first | exact H5.out | (rw [← HWX.out]; exact H5.out)⟩, HLN.out⟩
            case measure => simp [intOf]; omega
    · go_wp2_with fail
      have HBD : Hid (lv.length + lw.length ≤ 9437184) := by have := HLT.out; have := itot_mono S hk; have := HIB.out; unfold Hid; omega
      refine (num_list w wr bv B vv lv ns ao2 cap2 HT.out.v HNS.out HIN.out (by have := HBD.out; omega)).mono ?_
      rintro e w4 ⟨rfl, v', hs4⟩
      have H4 := Lib.hid (HT.out.set hs4)
      clear hs4
      go_wp2_with fail
      refine (rnum_list w w4 ns ao2 cap2 H4.out.v.bel HNS.out HIN.out (by omega)).mono ?_
      rintro e w5 ⟨rfl, hb5⟩
      have H5 := Lib.hid (H4.out.below hb5)
      clear hb5
      have hm9 := sevs_len ns HNS.out
      have hbs1 : (⟨lv.toArray⟩ : ByteArray) ++ ⟨(sevs ns).toArray⟩ = ⟨(lv ++ sevs ns).toArray⟩ := by rw [bs_append, List.toList_toArray]
      have hcl : lv.length + (sevs ns).length ≤ 9223372036854775807 := by have := HBD.out; omega
      generalize sevs ns = m at *
      go_wp2_with fail
      refine (awake_c _).mono ?_
      rintro e w6 ⟨rfl, hb6⟩
      have H6 := Lib.hid (H5.out.below hb6)
      clear hb6
      go_wp2_with fail
      refine (bytes_c bv B v' _ _ H6.out.v.wv).mono ?_
      rintro e w7 ⟨rfl, rfl⟩
      go_wp2_with fail
      refine (bytes_c bw B vw _ _ H6.out.w.wv).mono ?_
      rintro e w7 ⟨rfl, rfl⟩
      go_wp2_with fail
      go_ret
      exact ⟨rfl, H6.out.v.bel⟩
end Go.Proofs.Ytbpkeeadfbobdaa
