/- awake: the chapter's examples. -/
import Derived.Test.YtkjnjccjkjachaaHpM
namespace Go.Proofs.Ytkjnjccjkjachaa
open Go.RowKit
set_option linter.unusedSimpArgs false
set_option linter.unusedVariables false
set_option maxRecDepth 100000

theorem lookD_same (x y : Int) (f : Bool) (k v : ByteArray) : lookD (some (x, y, f, k, v)) k = some (x, y, f, k, v) := by unfold lookD; simp
theorem lookD_other (x y : Int) (f : Bool) {k : ByteArray} (v : ByteArray) {key : ByteArray} (h : k ≠ key) : lookD (some (x, y, f, k, v)) key = none := by unfold lookD; simp [h]

def exK : ByteArray := ⟨#[97]⟩
def exV : ByteArray := ⟨#[120]⟩
def exS : ByteArray := ⟨(encL 3 0 false exK exV).toArray⟩
def exT : Nat → ByteArray := updS (fun _ => ⟨#[]⟩) 0 exS
theorem exOk : encok 3 0 exK exV = true := by kernel_rfl
theorem exOk5 : encok 3 5 exK exV = true := by kernel_rfl
theorem exS_size : exS.size = 9 := by
  unfold exS
  rw [mk_size, encL_len exOk]
  rfl
theorem exT0 : exT 0 = exS := updS_same _ _ _
theorem exDec : decV exS = some (3, 0, false, exK, exV) := dec_enc 3 0 false exK exV exOk
theorem small0 : Small ⟨#[]⟩ (fun _ => ⟨#[]⟩) 0 := ⟨Nat.zero_le _, fun i hi => by omega⟩
theorem small1 : Small ⟨#[]⟩ exT 1 := ⟨Nat.zero_le _, fun i hi => by
  obtain rfl : i = 0 := by omega
  rw [exT0, exS_size]
  omega⟩
theorem fst0 : isFst (fun _ => ⟨#[]⟩) 0 0 := ⟨Nat.le_refl _, fun j hj => by omega, fun h => by omega⟩
theorem strs0 (w : World) (S : Nat → ByteArray) : StrsIn w none 0 S := fun i hi => by omega
theorem itot_one : itot exT 1 = 11 := by
  show 0 + (2 + (exT 0).size) = 11
  rw [exT0, exS_size]

theorem ins_aw (w : World) : Calls Try.prog 7 #[.agg #[.int .i64 0, .int .i64 2, .int .i64 0, .int .i64 0, .string ⟨#[]⟩, .slice none 0 0], .int .i64 7, .agg #[.int .i64 3, .int .i64 0, .bool false, .string exK, .string exV]] w fun e w' => e = .returned (.tuple #[.agg #[.int .i64 0, .int .i64 0, .int .i64 0, .int .u8 1, .int .i64 3, .int .i64 7, .int .i64 0, .int .i64 0, .int .i64 0, .int .i64 0, .string exS, .slice none 0 0, .slice none 0 0, .slice none 0 0, .slice none 0 0, .slice none 0 0], .int .i64 0]) ∧ Below w.heap.size w w' := by
  refine (ins_c 0 2 0 0 ⟨#[]⟩ none 0 0 (fun _ => ⟨#[]⟩) 0 3 0 false exK exV 7 w (by omega) small0 fst0 (strs0 w _)).mono ?_
  rintro e w' ⟨kd, xd, pg, sl, da, rfl, hE, hb⟩
  have hz : insE 2 ⟨#[]⟩ (fun _ => ⟨#[]⟩) 0 0 3 0 false exK exV = 0 := by
    unfold insE
    rw [if_neg (by simp), if_neg (by rw [exOk]; simp), if_pos]
    rw [lay_end]
    refine if_pos ⟨by omega, ?_⟩
    show 20 + 0 + 0 + 2 + exS.size ≤ 512
    rw [exS_size]
    omega
  rw [hz] at hE ⊢
  obtain ⟨rfl, rfl, rfl, rfl, rfl⟩ := hE rfl
  exact ⟨rfl, hb⟩
theorem does_aw (w : World) : Calls Try.prog 10 #[.agg #[.int .i64 0, .int .i64 2, .int .i64 0, .int .i64 0, .string ⟨#[]⟩, .slice none 0 0], .agg #[.int .i64 0, .int .i64 0, .int .i64 0, .int .u8 1, .int .i64 3, .int .i64 7, .int .i64 0, .int .i64 0, .int .i64 0, .int .i64 0, .string exS, .slice none 0 0, .slice none 0 0, .slice none 0 0, .slice none 0 0, .slice none 0 0]] w fun e w' => (∃ ao2 cap2, e = .returned (.tuple #[.agg #[.int .i64 0, .int .i64 2, .int .i64 0, .int .i64 0, .string ⟨#[]⟩, .slice ao2 1 cap2], .bool true]) ∧ StrsIn w' ao2 1 exT ∧ (∀ b off, ao2 = some ⟨b, off, none⟩ → w.heap.size ≤ b)) ∧ Below w.heap.size w w' := by
  refine (does_c 0 2 0 0 ⟨#[]⟩ none 0 0 (fun _ => ⟨#[]⟩) 0 3 7 exS w (by omega) (by omega) small0 (by rw [exS_size]; omega) fst0 (strs0 w _)).mono ?_
  rintro e w' ⟨ao2, cap2, rfl, hs, hge, hb⟩
  have hd : encd 0 2 0 0 ⟨#[]⟩ exT 1 = true := by
    unfold encd okfit psz
    rw [itot_one]
    rfl
  exact ⟨⟨ao2, cap2, by rw [← hd]; rfl, hs, hge⟩, hb⟩
theorem look_aw (ao2 : Option Addr) (cap2 : Nat) (w : World) (hs : StrsIn w ao2 1 exT) : Calls Try.prog 11 #[.agg #[.int .i64 0, .int .i64 2, .int .i64 0, .int .i64 0, .string ⟨#[]⟩, .slice ao2 1 cap2], .int .i64 0, .string exK] w fun e w' => e = .returned (.tuple #[.agg #[.int .i64 3, .int .i64 0, .bool false, .string exK, .string exV], .bool true]) ∧ Below w.heap.size w w' := by
  refine (look_c 0 2 0 0 ⟨#[]⟩ ao2 1 cap2 exT 0 exK w (by omega) hs).mono ?_
  rintro e w' ⟨rfl, hb⟩
  have h1 : atV 2 exT 1 0 = some (3, 0, false, exK, exV) := by
    unfold atV
    rw [if_pos ⟨rfl, by omega, by omega⟩]
    show decV (exT 0) = _
    rw [exT0]
    exact exDec
  have e1 := lookD_same 3 0 false exK exV
  rw [h1, e1]
  exact ⟨rfl, hb⟩
theorem look_no_aw (ao2 : Option Addr) (cap2 : Nat) (w : World) (hs : StrsIn w ao2 1 exT) : Calls Try.prog 11 #[.agg #[.int .i64 0, .int .i64 2, .int .i64 0, .int .i64 0, .string ⟨#[]⟩, .slice ao2 1 cap2], .int .i64 0, .string ⟨#[98]⟩] w fun e w' => e = .returned (.tuple #[.agg #[.int .i64 0, .int .i64 0, .bool false, .string ⟨#[]⟩, .string ⟨#[]⟩], .bool false]) ∧ Below w.heap.size w w' := by
  refine (look_c 0 2 0 0 ⟨#[]⟩ ao2 1 cap2 exT 0 ⟨#[98]⟩ w (by omega) hs).mono ?_
  rintro e w' ⟨rfl, hb⟩
  have h1 : atV 2 exT 1 0 = some (3, 0, false, exK, exV) := by
    unfold atV
    rw [if_pos ⟨rfl, by omega, by omega⟩]
    show decV (exT 0) = _
    rw [exT0]
    exact exDec
  have e1 := lookD_other 3 0 false exV (show exK ≠ ⟨#[98]⟩ by intro e; have := congrArg ByteArray.data e; simp [exK] at this)
  rw [h1, e1]
  exact ⟨rfl, hb⟩
theorem mark_aw (ao2 : Option Addr) (cap2 : Nat) (w : World) (hs : StrsIn w ao2 1 exT) : Calls Try.prog 21 #[.agg #[.int .i64 0, .int .i64 2, .int .i64 0, .int .i64 0, .string ⟨#[]⟩, .slice ao2 1 cap2], .int .i64 7, .int .i64 0, .int .i64 5] w fun e w' => e = .returned (.tuple #[.agg #[.int .i64 0, .int .i64 0, .int .i64 0, .int .u8 2, .int .i64 5, .int .i64 7, .int .i64 0, .int .i64 0, .int .i64 5, .int .i64 0, .string ⟨#[]⟩, .slice none 0 0, .slice none 0 0, .slice none 0 0, .slice none 0 0, .slice none 0 0], .int .i64 0]) ∧ Below w.heap.size w w' := by
  have hl : layE ⟨#[]⟩ exT 1 0 ⟨(encL 3 5 false exK exV).toArray⟩ = 0 := by
    have hsz : (⟨(encL 3 5 false exK exV).toArray⟩ : ByteArray).size = 9 := by rw [mk_size, encL_len exOk5]; rfl
    have h1 := itot_upd exT 0 ⟨(encL 3 5 false exK exV).toArray⟩ (len := 1) (by omega)
    rw [itot_one, exT0, exS_size, hsz] at h1
    unfold layE okfit psz
    rw [show max 1 (0 + 1) = 1 from rfl, show itot (updS exT 0 ⟨(encL 3 5 false exK exV).toArray⟩) 1 = 11 by omega]
    rfl
  exact mark_ok 0 0 0 ⟨#[]⟩ ao2 1 cap2 0 exT 7 5 3 0 false exK exV w (by omega) small1 hs (by omega) (by rw [exT0]; exact exDec) (by omega) (by omega) exOk5 hl
theorem room_aw (w : World) : Calls Try.prog 6 #[.agg #[.int .i64 0, .int .i64 2, .int .i64 0, .int .i64 0, .string ⟨#[]⟩, .slice none 0 0]] w fun e w' => e = .returned (.int .i64 490) ∧ Below w.heap.size w w' := by
  refine (room_c 0 2 0 0 ⟨#[]⟩ none 0 0 0 (fun _ => ⟨#[]⟩) w (by omega) small0 fst0 (strs0 w _)).mono ?_
  rintro e w' ⟨rfl, hb⟩
  exact ⟨rfl, hb⟩
theorem keys_aw (ao2 : Option Addr) (cap2 : Nat) (w : World) (hs : StrsIn w ao2 1 exT) : Calls Try.prog 13 #[.agg #[.int .i64 0, .int .i64 2, .int .i64 0, .int .i64 0, .string ⟨#[]⟩, .slice ao2 1 cap2]] w fun e w' => (∃ ga cp, e = .returned (.slice ga 1 cp)) ∧ Below w.heap.size w w' := by
  refine (keys_c 0 2 0 0 ⟨#[]⟩ ao2 1 cap2 exT w (by omega) hs).mono ?_
  rintro e w' ⟨v, rfl, hv, hb⟩
  have hk : keysOf 2 exT 1 = [(exK, 0)] := by
    unfold keysOf
    rw [if_pos rfl, keysL_some (k := exK) (by unfold keyV; rw [exT0, exDec])]
    rfl
  rw [hk] at hv
  obtain ⟨_, ⟨_, h0⟩ | ⟨g, cp, cur, rfl, _⟩⟩ := hv
  · simp at h0
  · exact ⟨⟨_, _, rfl⟩, hb⟩

theorem StrsIn.sub {w w' : World} {ao : Option Addr} {len : Nat} {S : Nat → ByteArray} (h : StrsIn w ao len S) (hb : Below w.heap.size w w') : StrsIn w' ao len S := h.below hb rfl
theorem rec_all {w : World} {b : Nat} {kd xd pg sl od nw : Int} {da : ByteArray} (h : w.heap[b]? = some (.cells #[.int .i64 0, .int .i64 0, .int .i64 0, .int .u8 kd, .int .i64 xd, .int .i64 pg, .int .i64 sl, .int .i64 od, .int .i64 nw, .int .i64 0, .string da, .slice none 0 0, .slice none 0 0, .slice none 0 0, .slice none 0 0, .slice none 0 0] 34 (0, 0))) :
    w.cell? ⟨b, 0, none⟩ = some (.int .i64 0) ∧ w.cell? ⟨b, 1, none⟩ = some (.int .i64 0) ∧ w.cell? ⟨b, 2, none⟩ = some (.int .i64 0) ∧ w.cell? ⟨b, 3, none⟩ = some (.int .u8 kd) ∧ w.cell? ⟨b, 4, none⟩ = some (.int .i64 xd) ∧ w.cell? ⟨b, 5, none⟩ = some (.int .i64 pg) ∧ w.cell? ⟨b, 6, none⟩ = some (.int .i64 sl) ∧ w.cell? ⟨b, 7, none⟩ = some (.int .i64 od) ∧ w.cell? ⟨b, 8, none⟩ = some (.int .i64 nw) ∧ w.cell? ⟨b, 9, none⟩ = some (.int .i64 0) ∧ w.cell? ⟨b, 10, none⟩ = some (.string da) ∧ w.cell? ⟨b, 11, none⟩ = some (.slice none 0 0) ∧ w.cell? ⟨b, 12, none⟩ = some (.slice none 0 0) ∧ w.cell? ⟨b, 13, none⟩ = some (.slice none 0 0) ∧ w.cell? ⟨b, 14, none⟩ = some (.slice none 0 0) ∧ w.cell? ⟨b, 15, none⟩ = some (.slice none 0 0) := by
  refine ⟨?_, ?_, ?_, ?_, ?_, ?_, ?_, ?_, ?_, ?_, ?_, ?_, ?_, ?_, ?_, ?_⟩ <;> (simp only [World.cell?, h]; rfl)
theorem fresh_below {w w' : World} {o : Obj} (hg : (w.alloc o).grownBy w' (some w.heap.size)) : Below w.heap.size w w' := below_own (W := w) ((Below.refl _ w).alloc (Nat.le_refl _) _) (Nat.le_refl _) hg
theorem StrsIn.grown {w w' : World} {ao : Option Addr} {len : Nat} {S : Nat → ByteArray} (h : StrsIn w ao len S) {r : Nat} (hg : w.grownBy w' (some r)) (hne : ∀ b off, ao = some ⟨b, off, none⟩ → b ≠ r) : StrsIn w' ao len S := fun i hi => by
  obtain ⟨b, off, e, hc, hs⟩ := h i hi
  exact ⟨b, off, e, grown_at hg hc (by have := hne b off e; simp; exact this), hs⟩
theorem exK_hid : (⟨#[97]⟩ : ByteArray) = exK := rfl
theorem exV_hid : (⟨#[120]⟩ : ByteArray) = exV := rfl

set_option maxHeartbeats 16000000 in
theorem awake_c (w : World) : Calls Try.prog 8 #[] w fun e w' => e = .returned (.bool true) ∧ Below w.heap.size w w' := by
  have F1 := Lib.hid blank_c
  have F2 := Lib.hid ins_aw
  have F3 := Lib.hid does_aw
  have F4 := Lib.hid look_aw
  have F5 := Lib.hid look_no_aw
  have F6 := Lib.hid mark_aw
  have F7 := Lib.hid room_aw
  have F8 := Lib.hid keys_aw
  unfold exK exV at F2 F4
  go_enter Try.func8, Try.ntmps8
  go_wp2_with fail
  refine (F1.out w).mono ?_
  rintro e w1 ⟨rfl, hb1⟩
  have HB1 := Lib.hid hb1
  clear hb1
  go_wp2_with fail
  refine (F2.out w1).mono ?_
  rintro e w2 ⟨rfl, hb2⟩
  have HB2 := Lib.hid (HB1.out.trans (hb2.mono HB1.out.size))
  clear hb2 HB1 F2
  generalize exS = s at *
  have hnr : (w2.alloc (.cells #[.int .i64 0, .int .i64 0, .int .i64 0, .int .u8 0, .int .i64 0, .int .i64 0, .int .i64 0, .int .i64 0, .int .i64 0, .int .i64 0, .string ⟨#[]⟩, .slice none 0 0, .slice none 0 0, .slice none 0 0, .slice none 0 0, .slice none 0 0] 34)).heap[w2.heap.size]? = some (.cells #[.int .i64 0, .int .i64 0, .int .i64 0, .int .u8 0, .int .i64 0, .int .i64 0, .int .i64 0, .int .i64 0, .int .i64 0, .int .i64 0, .string ⟨#[]⟩, .slice none 0 0, .slice none 0 0, .slice none 0 0, .slice none 0 0, .slice none 0 0] 34 (0, 0)) := heap_alloc_new w2 _
  have HF2 : Hid (Fr w w2 []) := ⟨fun q hq => by simp at hq, HB2.out⟩
  clear HB2
  go_upto_region 2 with (refine wpList_st_row rfl 34 _ _ rfl w2.heap.size rfl _ rfl hnr (by kernel_rfl) rfl (by simp [Value.oneCell']) (fun w3 hp3 hg3 => ?_); have H3 := Lib.hid (HF2.out.fresh hg3 hp3); clear hp3 hg3)
  clear hnr HF2
  generalize w2.heap.size = b1 at *
  have HD0 : Hid (Fr w w3.drew [(b1, #[.int .i64 0, .int .i64 0, .int .i64 0, .int .u8 1, .int .i64 3, .int .i64 7, .int .i64 0, .int .i64 0, .int .i64 0, .int .i64 0, .string s, .slice none 0 0, .slice none 0 0, .slice none 0 0, .slice none 0 0, .slice none 0 0], 34)]) := H3.out.below (by exact (Below.refl _ _).drew)
  go_cut [3, 4] (fun s3 s4 wx => ∃ bp ao2 cp, s3 = .pointer (some ⟨bp, 0, none⟩) ∧ s4 = .bool true ∧ Hid (Fr w wx [(bp, #[.int .i64 0, .int .i64 2, .int .i64 0, .int .i64 0, .string ⟨#[]⟩, .slice ao2 1 cp], 24), (b1, #[.int .i64 0, .int .i64 0, .int .i64 0, .int .u8 1, .int .i64 3, .int .i64 7, .int .i64 0, .int .i64 0, .int .i64 0, .int .i64 0, .string s, .slice none 0 0, .slice none 0 0, .slice none 0 0, .slice none 0 0, .slice none 0 0], 34)] ∧ StrsIn wx ao2 1 exT))
  case first =>
    refine wp_region_held_drew (S := fun wx => wx.heap[b1]? = some (.cells #[.int .i64 0, .int .i64 0, .int .i64 0, .int .u8 1, .int .i64 3, .int .i64 7, .int .i64 0, .int .i64 0, .int .i64 0, .int .i64 0, .string s, .slice none 0 0, .slice none 0 0, .slice none 0 0, .slice none 0 0, .slice none 0 0] 34 (0, 0))) (by kernel_rfl) (HD0.out.row (b := b1) (c := #[.int .i64 0, .int .i64 0, .int .i64 0, .int .u8 1, .int .i64 3, .int .i64 7, .int .i64 0, .int .i64 0, .int .i64 0, .int .i64 0, .string s, .slice none 0 0, .slice none 0 0, .slice none 0 0, .slice none 0 0, .slice none 0 0]) (t := 34) (by simp)) (fun hHeld => ?_)
    have HD := Lib.hid HD0.out
    clear HD0 H3
    generalize w3.drew = wd at *
    refine take_op (i := 1) (d := some 19) (v := ?_) rfl rfl (by kernel_rfl) (by kernel_rfl) (by kernel_rfl) (fun _ _ _ h => h) (Or.inl ⟨by rfl, ?_⟩) (by assumption) ?_
    rotate_left
    · (intro w' hSw; (try dsimp only at hSw); obtain ⟨r0, r1, r2, r3, r4, r5, r6, r7, r8, r9, r10, r11, r12, r13, r14, r15⟩ := rec_all hSw; go_simp; try (with_reducible rfl))
    try simp only [Act.put, List.setIfInBounds_toArray, List.set_cons_zero, List.set_cons_succ]
    refine wpAnyH_ready (rs := [0, 6]) (by kernel_rfl) (by simp) ?_
    refine AllReadyH.cons rfl (fun K hK => ?_) (AllReadyH.cons rfl (fun K hK => ?_) AllReadyH.nil)
    · go_simp
      refine (F1.out _).mono ?_
      rintro e wa ⟨rfl, hb⟩
      have HD := Lib.hid (HD.out.below hb)
      clear hb
      refine hK.out _ _ (HD.out.row (b := b1) (c := #[.int .i64 0, .int .i64 0, .int .i64 0, .int .u8 1, .int .i64 3, .int .i64 7, .int .i64 0, .int .i64 0, .int .i64 0, .int .i64 0, .string s, .slice none 0 0, .slice none 0 0, .slice none 0 0, .slice none 0 0, .slice none 0 0]) (t := 34) (by simp)) (fun hHeld => ?_)
      clear hK K
      try simp only [Act.put, List.setIfInBounds_toArray, List.set_cons_zero, List.set_cons_succ]
      refine wpAnyH_ready (rs := [2, 6]) (by kernel_rfl) (by simp) ?_
      refine AllReadyH.cons rfl (fun K hK => ?_) (AllReadyH.cons rfl (fun K hK => ?_) AllReadyH.nil)
      · go_simp
        refine (F3.out _).mono ?_
        rintro e wb ⟨⟨ao2, cap2, rfl, hs, hge⟩, hb⟩
        have HI := Lib.hid hs
        have HD := Lib.hid (HD.out.below hb)
        clear hb hs hge
        refine hK.out _ _ (HD.out.row (b := b1) (c := #[.int .i64 0, .int .i64 0, .int .i64 0, .int .u8 1, .int .i64 3, .int .i64 7, .int .i64 0, .int .i64 0, .int .i64 0, .int .i64 0, .string s, .slice none 0 0, .slice none 0 0, .slice none 0 0, .slice none 0 0, .slice none 0 0]) (t := 34) (by simp)) (fun hHeld => ?_)
        clear hK K
        try simp only [Act.put, List.setIfInBounds_toArray, List.set_cons_zero, List.set_cons_succ]
        refine take_op (i := 3) (d := some 17) (v := ?_) rfl rfl (by kernel_rfl) (by kernel_rfl) (by kernel_rfl) (fun _ _ _ h => h) (Or.inl ⟨by rfl, ?_⟩) (by assumption) ?_
        rotate_left
        · (intro w' hSw; (try dsimp only at hSw); obtain ⟨r0, r1, r2, r3, r4, r5, r6, r7, r8, r9, r10, r11, r12, r13, r14, r15⟩ := rec_all hSw; go_simp; try (with_reducible rfl))
        try simp only [Act.put, List.setIfInBounds_toArray, List.set_cons_zero, List.set_cons_succ]
        refine take_op (i := 4) (d := some 21) (v := ?_) rfl rfl (by kernel_rfl) (by kernel_rfl) (by kernel_rfl) (fun _ _ _ h => h) (Or.inl ⟨by rfl, ?_⟩) (by assumption) ?_
        rotate_left
        · (intro w' hSw; (try dsimp only at hSw); obtain ⟨r0, r1, r2, r3, r4, r5, r6, r7, r8, r9, r10, r11, r12, r13, r14, r15⟩ := rec_all hSw; go_simp; try (with_reducible rfl))
        try simp only [Act.put, List.setIfInBounds_toArray, List.set_cons_zero, List.set_cons_succ]
        refine take_op (i := 5) (d := some 22) (v := ?_) rfl rfl (by kernel_rfl) (by kernel_rfl) (by kernel_rfl) (fun _ _ _ h => h) (Or.inl ⟨by rfl, ?_⟩) (by assumption) ?_
        rotate_left
        · (intro w' hSw; (try dsimp only at hSw); obtain ⟨r0, r1, r2, r3, r4, r5, r6, r7, r8, r9, r10, r11, r12, r13, r14, r15⟩ := rec_all hSw; go_simp; try (with_reducible rfl))
        try simp only [Act.put, List.setIfInBounds_toArray, List.set_cons_zero, List.set_cons_succ]
        refine wpAnyH_ready (rs := [6]) (by kernel_rfl) (by simp) ?_
        refine AllReadyH.cons rfl (fun K hK => ?_) AllReadyH.nil
        go_simp
        have HA : Hid ((wb.alloc (.cells #[.int .i64 0, .int .i64 0, .int .i64 0, .int .i64 0, .string ⟨#[]⟩, .slice none 0 0] 24)).heap[wb.heap.size]? = some (.cells #[.int .i64 0, .int .i64 0, .int .i64 0, .int .i64 0, .string ⟨#[]⟩, .slice none 0 0] 24 (0, 0))) := heap_alloc_new _ _
        have ha := (Below.refl wb.heap.size wb).alloc (Nat.le_refl _) (.cells #[.int .i64 0, .int .i64 0, .int .i64 0, .int .i64 0, .string ⟨#[]⟩, .slice none 0 0] 24)
        have HIN : Hid (∀ b off, ao2 = some ⟨b, off, none⟩ → b ≠ wb.heap.size) := fun b off e => by obtain ⟨b9, o9, e9, hc9, _⟩ := HI.out 0 (by omega); have := World.block_lt_of_cell? wb _ hc9; rw [e9] at e; cases e; exact Nat.ne_of_lt this
        have HI := Lib.hid (HI.out.sub ha)
        have HBA : Hid (b1 < wb.heap.size) := row_lt (HD.out.row (b := b1) (c := #[.int .i64 0, .int .i64 0, .int .i64 0, .int .u8 1, .int .i64 3, .int .i64 7, .int .i64 0, .int .i64 0, .int .i64 0, .int .i64 0, .string s, .slice none 0 0, .slice none 0 0, .slice none 0 0, .slice none 0 0, .slice none 0 0]) (t := 34) (by simp))
        have HNE : Hid (b1 < wb.heap.size ∧ wb.heap.size < (wb.alloc (.cells #[.int .i64 0, .int .i64 0, .int .i64 0, .int .i64 0, .string ⟨#[]⟩, .slice none 0 0] 24)).heap.size) := ⟨HBA.out, by simp⟩
        have HWB := Lib.hid HD.out.bel.size
        have HD := Lib.hid (HD.out.below ha)
        clear ha
        refine hK.out _ _ (HD.out.row (b := b1) (c := #[.int .i64 0, .int .i64 0, .int .i64 0, .int .u8 1, .int .i64 3, .int .i64 7, .int .i64 0, .int .i64 0, .int .i64 0, .int .i64 0, .string s, .slice none 0 0, .slice none 0 0, .slice none 0 0, .slice none 0 0, .slice none 0 0]) (t := 34) (by simp)) (fun hHeld => ?_)
        clear hK K
        try simp only [Act.put, List.setIfInBounds_toArray, List.set_cons_zero, List.set_cons_succ]
        generalize wb.alloc (.cells #[.int .i64 0, .int .i64 0, .int .i64 0, .int .i64 0, .string ⟨#[]⟩, .slice none 0 0] 24) = w9 at *
        generalize wb.heap.size = ba at *
        refine wpAnyH_ready (rs := [7]) (by kernel_rfl) (by simp) ?_
        refine AllReadyH.cons rfl (fun K hK => ?_) AllReadyH.nil
        rw [if_pos (by rfl)]
        refine wp_st_row 24 _ _ rfl ba rfl _ rfl HA.out (by kernel_rfl) rfl (by simp [Value.oneCell']) (fun w7 hp7 hg7 => ?_)
        try simp only [Act.put, List.setIfInBounds_toArray, List.set_cons_zero, List.set_cons_succ]
        have HF7 := Lib.hid (HD.out.own hg7 hp7 (by have := HBA.out; intro q hq; simp at hq; subst hq; simp; omega) HWB.out)
        have HI7 := Lib.hid (HI.out.grown hg7 HIN.out)
        clear hp7 hg7
        refine hK.out _ _ (HF7.out.row (b := b1) (c := #[.int .i64 0, .int .i64 0, .int .i64 0, .int .u8 1, .int .i64 3, .int .i64 7, .int .i64 0, .int .i64 0, .int .i64 0, .int .i64 0, .string s, .slice none 0 0, .slice none 0 0, .slice none 0 0, .slice none 0 0, .slice none 0 0]) (t := 34) (by simp)) (fun hHeld => ?_)
        clear hK K
        try simp only [Act.put, List.setIfInBounds_toArray, List.set_cons_zero, List.set_cons_succ]
        refine take_op (i := 8) (d := some 4) (v := ?_) rfl rfl (by kernel_rfl) (by kernel_rfl) (by kernel_rfl) (fun _ _ _ h => h) (Or.inl ⟨by rfl, ?_⟩) (by assumption) ?_
        rotate_left
        · (intro w' hSw; (try dsimp only at hSw); obtain ⟨r0, r1, r2, r3, r4, r5, r6, r7, r8, r9, r10, r11, r12, r13, r14, r15⟩ := rec_all hSw; go_simp; try (with_reducible rfl))
        try simp only [Act.put, List.setIfInBounds_toArray, List.set_cons_zero, List.set_cons_succ]
        refine wpAnyH_done (by kernel_rfl) ?_ _
        go_wp2_with fail
        go_meet
        exact ⟨ba, ao2, cap2, rfl, rfl, HF7.out, HI7.out⟩
      · go_simp
        have HA : Hid ((wa.alloc (.cells #[.int .i64 0, .int .i64 0, .int .i64 0, .int .i64 0, .string ⟨#[]⟩, .slice none 0 0] 24)).heap[wa.heap.size]? = some (.cells #[.int .i64 0, .int .i64 0, .int .i64 0, .int .i64 0, .string ⟨#[]⟩, .slice none 0 0] 24 (0, 0))) := heap_alloc_new _ _
        have ha := (Below.refl wa.heap.size wa).alloc (Nat.le_refl _) (.cells #[.int .i64 0, .int .i64 0, .int .i64 0, .int .i64 0, .string ⟨#[]⟩, .slice none 0 0] 24)
        have HBA : Hid (b1 < wa.heap.size) := row_lt (HD.out.row (b := b1) (c := #[.int .i64 0, .int .i64 0, .int .i64 0, .int .u8 1, .int .i64 3, .int .i64 7, .int .i64 0, .int .i64 0, .int .i64 0, .int .i64 0, .string s, .slice none 0 0, .slice none 0 0, .slice none 0 0, .slice none 0 0, .slice none 0 0]) (t := 34) (by simp))
        have HNE : Hid (b1 < wa.heap.size ∧ wa.heap.size < (wa.alloc (.cells #[.int .i64 0, .int .i64 0, .int .i64 0, .int .i64 0, .string ⟨#[]⟩, .slice none 0 0] 24)).heap.size) := ⟨HBA.out, by simp⟩
        have HWB := Lib.hid HD.out.bel.size
        have HD := Lib.hid (HD.out.below ha)
        clear ha
        refine hK.out _ _ (HD.out.row (b := b1) (c := #[.int .i64 0, .int .i64 0, .int .i64 0, .int .u8 1, .int .i64 3, .int .i64 7, .int .i64 0, .int .i64 0, .int .i64 0, .int .i64 0, .string s, .slice none 0 0, .slice none 0 0, .slice none 0 0, .slice none 0 0, .slice none 0 0]) (t := 34) (by simp)) (fun hHeld => ?_)
        clear hK K
        try simp only [Act.put, List.setIfInBounds_toArray, List.set_cons_zero, List.set_cons_succ]
        generalize wa.alloc (.cells #[.int .i64 0, .int .i64 0, .int .i64 0, .int .i64 0, .string ⟨#[]⟩, .slice none 0 0] 24) = w9 at *
        generalize wa.heap.size = ba at *
        refine wpAnyH_ready (rs := [2]) (by kernel_rfl) (by simp) ?_
        refine AllReadyH.cons rfl (fun K hK => ?_) AllReadyH.nil
        go_simp
        refine (F3.out _).mono ?_
        rintro e wb ⟨⟨ao2, cap2, rfl, hs, hge⟩, hb⟩
        have HI := Lib.hid hs
        have HA := Lib.hid ((hb.block ba (row_lt HA.out)).trans HA.out)
        have HIN : Hid (∀ b off, ao2 = some ⟨b, off, none⟩ → b ≠ ba) := fun b off e => by have := hge b off e; have := HNE.out.2; omega
        have HD := Lib.hid (HD.out.below hb)
        clear hb hs hge
        refine hK.out _ _ (HD.out.row (b := b1) (c := #[.int .i64 0, .int .i64 0, .int .i64 0, .int .u8 1, .int .i64 3, .int .i64 7, .int .i64 0, .int .i64 0, .int .i64 0, .int .i64 0, .string s, .slice none 0 0, .slice none 0 0, .slice none 0 0, .slice none 0 0, .slice none 0 0]) (t := 34) (by simp)) (fun hHeld => ?_)
        clear hK K
        try simp only [Act.put, List.setIfInBounds_toArray, List.set_cons_zero, List.set_cons_succ]
        refine take_op (i := 3) (d := some 17) (v := ?_) rfl rfl (by kernel_rfl) (by kernel_rfl) (by kernel_rfl) (fun _ _ _ h => h) (Or.inl ⟨by rfl, ?_⟩) (by assumption) ?_
        rotate_left
        · (intro w' hSw; (try dsimp only at hSw); obtain ⟨r0, r1, r2, r3, r4, r5, r6, r7, r8, r9, r10, r11, r12, r13, r14, r15⟩ := rec_all hSw; go_simp; try (with_reducible rfl))
        try simp only [Act.put, List.setIfInBounds_toArray, List.set_cons_zero, List.set_cons_succ]
        refine take_op (i := 4) (d := some 21) (v := ?_) rfl rfl (by kernel_rfl) (by kernel_rfl) (by kernel_rfl) (fun _ _ _ h => h) (Or.inl ⟨by rfl, ?_⟩) (by assumption) ?_
        rotate_left
        · (intro w' hSw; (try dsimp only at hSw); obtain ⟨r0, r1, r2, r3, r4, r5, r6, r7, r8, r9, r10, r11, r12, r13, r14, r15⟩ := rec_all hSw; go_simp; try (with_reducible rfl))
        try simp only [Act.put, List.setIfInBounds_toArray, List.set_cons_zero, List.set_cons_succ]
        refine take_op (i := 5) (d := some 22) (v := ?_) rfl rfl (by kernel_rfl) (by kernel_rfl) (by kernel_rfl) (fun _ _ _ h => h) (Or.inl ⟨by rfl, ?_⟩) (by assumption) ?_
        rotate_left
        · (intro w' hSw; (try dsimp only at hSw); obtain ⟨r0, r1, r2, r3, r4, r5, r6, r7, r8, r9, r10, r11, r12, r13, r14, r15⟩ := rec_all hSw; go_simp; try (with_reducible rfl))
        try simp only [Act.put, List.setIfInBounds_toArray, List.set_cons_zero, List.set_cons_succ]
        refine wpAnyH_ready (rs := [7]) (by kernel_rfl) (by simp) ?_
        refine AllReadyH.cons rfl (fun K hK => ?_) AllReadyH.nil
        rw [if_pos (by rfl)]
        refine wp_st_row 24 _ _ rfl ba rfl _ rfl HA.out (by kernel_rfl) rfl (by simp [Value.oneCell']) (fun w7 hp7 hg7 => ?_)
        try simp only [Act.put, List.setIfInBounds_toArray, List.set_cons_zero, List.set_cons_succ]
        have HF7 := Lib.hid (HD.out.own hg7 hp7 (by have := HBA.out; intro q hq; simp at hq; subst hq; simp; omega) HWB.out)
        have HI7 := Lib.hid (HI.out.grown hg7 HIN.out)
        clear hp7 hg7
        refine hK.out _ _ (HF7.out.row (b := b1) (c := #[.int .i64 0, .int .i64 0, .int .i64 0, .int .u8 1, .int .i64 3, .int .i64 7, .int .i64 0, .int .i64 0, .int .i64 0, .int .i64 0, .string s, .slice none 0 0, .slice none 0 0, .slice none 0 0, .slice none 0 0, .slice none 0 0]) (t := 34) (by simp)) (fun hHeld => ?_)
        clear hK K
        try simp only [Act.put, List.setIfInBounds_toArray, List.set_cons_zero, List.set_cons_succ]
        refine take_op (i := 8) (d := some 4) (v := ?_) rfl rfl (by kernel_rfl) (by kernel_rfl) (by kernel_rfl) (fun _ _ _ h => h) (Or.inl ⟨by rfl, ?_⟩) (by assumption) ?_
        rotate_left
        · (intro w' hSw; (try dsimp only at hSw); obtain ⟨r0, r1, r2, r3, r4, r5, r6, r7, r8, r9, r10, r11, r12, r13, r14, r15⟩ := rec_all hSw; go_simp; try (with_reducible rfl))
        try simp only [Act.put, List.setIfInBounds_toArray, List.set_cons_zero, List.set_cons_succ]
        refine wpAnyH_done (by kernel_rfl) ?_ _
        go_wp2_with fail
        go_meet
        exact ⟨ba, ao2, cap2, rfl, rfl, HF7.out, HI7.out⟩
    · go_simp
      have HA : Hid ((wd.alloc (.cells #[.int .i64 0, .int .i64 0, .int .i64 0, .int .i64 0, .string ⟨#[]⟩, .slice none 0 0] 24)).heap[wd.heap.size]? = some (.cells #[.int .i64 0, .int .i64 0, .int .i64 0, .int .i64 0, .string ⟨#[]⟩, .slice none 0 0] 24 (0, 0))) := heap_alloc_new _ _
      have ha := (Below.refl wd.heap.size wd).alloc (Nat.le_refl _) (.cells #[.int .i64 0, .int .i64 0, .int .i64 0, .int .i64 0, .string ⟨#[]⟩, .slice none 0 0] 24)
      have HBA : Hid (b1 < wd.heap.size) := row_lt (HD.out.row (b := b1) (c := #[.int .i64 0, .int .i64 0, .int .i64 0, .int .u8 1, .int .i64 3, .int .i64 7, .int .i64 0, .int .i64 0, .int .i64 0, .int .i64 0, .string s, .slice none 0 0, .slice none 0 0, .slice none 0 0, .slice none 0 0, .slice none 0 0]) (t := 34) (by simp))
      have HNE : Hid (b1 < wd.heap.size ∧ wd.heap.size < (wd.alloc (.cells #[.int .i64 0, .int .i64 0, .int .i64 0, .int .i64 0, .string ⟨#[]⟩, .slice none 0 0] 24)).heap.size) := ⟨HBA.out, by simp⟩
      have HWB := Lib.hid HD.out.bel.size
      have HD := Lib.hid (HD.out.below ha)
      clear ha
      refine hK.out _ _ (HD.out.row (b := b1) (c := #[.int .i64 0, .int .i64 0, .int .i64 0, .int .u8 1, .int .i64 3, .int .i64 7, .int .i64 0, .int .i64 0, .int .i64 0, .int .i64 0, .string s, .slice none 0 0, .slice none 0 0, .slice none 0 0, .slice none 0 0, .slice none 0 0]) (t := 34) (by simp)) (fun hHeld => ?_)
      clear hK K
      try simp only [Act.put, List.setIfInBounds_toArray, List.set_cons_zero, List.set_cons_succ]
      generalize wd.alloc (.cells #[.int .i64 0, .int .i64 0, .int .i64 0, .int .i64 0, .string ⟨#[]⟩, .slice none 0 0] 24) = w9 at *
      generalize wd.heap.size = ba at *
      refine wpAnyH_ready (rs := [0]) (by kernel_rfl) (by simp) ?_
      refine AllReadyH.cons rfl (fun K hK => ?_) AllReadyH.nil
      go_simp
      refine (F1.out _).mono ?_
      rintro e wa ⟨rfl, hb⟩
      have HA := Lib.hid ((hb.block ba (row_lt HA.out)).trans HA.out)
      have HD := Lib.hid (HD.out.below hb)
      have HNE := Lib.hid (Nat.lt_of_lt_of_le HNE.out.2 hb.size)
      have HNE : Hid (b1 < ba ∧ ba < wa.heap.size) := ⟨HBA.out, HNE.out⟩
      clear hb
      refine hK.out _ _ (HD.out.row (b := b1) (c := #[.int .i64 0, .int .i64 0, .int .i64 0, .int .u8 1, .int .i64 3, .int .i64 7, .int .i64 0, .int .i64 0, .int .i64 0, .int .i64 0, .string s, .slice none 0 0, .slice none 0 0, .slice none 0 0, .slice none 0 0, .slice none 0 0]) (t := 34) (by simp)) (fun hHeld => ?_)
      clear hK K
      try simp only [Act.put, List.setIfInBounds_toArray, List.set_cons_zero, List.set_cons_succ]
      refine wpAnyH_ready (rs := [2]) (by kernel_rfl) (by simp) ?_
      refine AllReadyH.cons rfl (fun K hK => ?_) AllReadyH.nil
      go_simp
      refine (F3.out _).mono ?_
      rintro e wb ⟨⟨ao2, cap2, rfl, hs, hge⟩, hb⟩
      have HI := Lib.hid hs
      have HA := Lib.hid ((hb.block ba (row_lt HA.out)).trans HA.out)
      have HIN : Hid (∀ b off, ao2 = some ⟨b, off, none⟩ → b ≠ ba) := fun b off e => by have := hge b off e; have := HNE.out.2; omega
      have HD := Lib.hid (HD.out.below hb)
      clear hb hs hge
      refine hK.out _ _ (HD.out.row (b := b1) (c := #[.int .i64 0, .int .i64 0, .int .i64 0, .int .u8 1, .int .i64 3, .int .i64 7, .int .i64 0, .int .i64 0, .int .i64 0, .int .i64 0, .string s, .slice none 0 0, .slice none 0 0, .slice none 0 0, .slice none 0 0, .slice none 0 0]) (t := 34) (by simp)) (fun hHeld => ?_)
      clear hK K
      try simp only [Act.put, List.setIfInBounds_toArray, List.set_cons_zero, List.set_cons_succ]
      refine take_op (i := 3) (d := some 17) (v := ?_) rfl rfl (by kernel_rfl) (by kernel_rfl) (by kernel_rfl) (fun _ _ _ h => h) (Or.inl ⟨by rfl, ?_⟩) (by assumption) ?_
      rotate_left
      · (intro w' hSw; (try dsimp only at hSw); obtain ⟨r0, r1, r2, r3, r4, r5, r6, r7, r8, r9, r10, r11, r12, r13, r14, r15⟩ := rec_all hSw; go_simp; try (with_reducible rfl))
      try simp only [Act.put, List.setIfInBounds_toArray, List.set_cons_zero, List.set_cons_succ]
      refine take_op (i := 4) (d := some 21) (v := ?_) rfl rfl (by kernel_rfl) (by kernel_rfl) (by kernel_rfl) (fun _ _ _ h => h) (Or.inl ⟨by rfl, ?_⟩) (by assumption) ?_
      rotate_left
      · (intro w' hSw; (try dsimp only at hSw); obtain ⟨r0, r1, r2, r3, r4, r5, r6, r7, r8, r9, r10, r11, r12, r13, r14, r15⟩ := rec_all hSw; go_simp; try (with_reducible rfl))
      try simp only [Act.put, List.setIfInBounds_toArray, List.set_cons_zero, List.set_cons_succ]
      refine take_op (i := 5) (d := some 22) (v := ?_) rfl rfl (by kernel_rfl) (by kernel_rfl) (by kernel_rfl) (fun _ _ _ h => h) (Or.inl ⟨by rfl, ?_⟩) (by assumption) ?_
      rotate_left
      · (intro w' hSw; (try dsimp only at hSw); obtain ⟨r0, r1, r2, r3, r4, r5, r6, r7, r8, r9, r10, r11, r12, r13, r14, r15⟩ := rec_all hSw; go_simp; try (with_reducible rfl))
      try simp only [Act.put, List.setIfInBounds_toArray, List.set_cons_zero, List.set_cons_succ]
      refine wpAnyH_ready (rs := [7]) (by kernel_rfl) (by simp) ?_
      refine AllReadyH.cons rfl (fun K hK => ?_) AllReadyH.nil
      rw [if_pos (by rfl)]
      refine wp_st_row 24 _ _ rfl ba rfl _ rfl HA.out (by kernel_rfl) rfl (by simp [Value.oneCell']) (fun w7 hp7 hg7 => ?_)
      try simp only [Act.put, List.setIfInBounds_toArray, List.set_cons_zero, List.set_cons_succ]
      have HF7 := Lib.hid (HD.out.own hg7 hp7 (by have := HBA.out; intro q hq; simp at hq; subst hq; simp; omega) HWB.out)
      have HI7 := Lib.hid (HI.out.grown hg7 HIN.out)
      clear hp7 hg7
      refine hK.out _ _ (HF7.out.row (b := b1) (c := #[.int .i64 0, .int .i64 0, .int .i64 0, .int .u8 1, .int .i64 3, .int .i64 7, .int .i64 0, .int .i64 0, .int .i64 0, .int .i64 0, .string s, .slice none 0 0, .slice none 0 0, .slice none 0 0, .slice none 0 0, .slice none 0 0]) (t := 34) (by simp)) (fun hHeld => ?_)
      clear hK K
      try simp only [Act.put, List.setIfInBounds_toArray, List.set_cons_zero, List.set_cons_succ]
      refine take_op (i := 8) (d := some 4) (v := ?_) rfl rfl (by kernel_rfl) (by kernel_rfl) (by kernel_rfl) (fun _ _ _ h => h) (Or.inl ⟨by rfl, ?_⟩) (by assumption) ?_
      rotate_left
      · (intro w' hSw; (try dsimp only at hSw); obtain ⟨r0, r1, r2, r3, r4, r5, r6, r7, r8, r9, r10, r11, r12, r13, r14, r15⟩ := rec_all hSw; go_simp; try (with_reducible rfl))
      try simp only [Act.put, List.setIfInBounds_toArray, List.set_cons_zero, List.set_cons_succ]
      refine wpAnyH_done (by kernel_rfl) ?_ _
      go_wp2_with fail
      go_meet
      exact ⟨ba, ao2, cap2, rfl, rfl, HF7.out, HI7.out⟩
  case rest =>
    obtain ⟨bp, ao2, cp, rfl, rfl, HC⟩ := hcut
    have HF := Lib.hid HC.out.1
    have HI := Lib.hid HC.out.2
    have F4a := Lib.hid (fun w' hh => F4.out ao2 cp w' hh)
    have F5a := Lib.hid (fun w' hh => F5.out ao2 cp w' hh)
    have F6a := Lib.hid (fun w' hh => F6.out ao2 cp w' hh)
    have F8a := Lib.hid (fun w' hh => F8.out ao2 cp w' hh)
    clear HC H3 HD0 F3 F4 F5 F6 F8
    obtain ⟨c0, c1, c2, c3, c4, c5⟩ := pk_cells (HF.out.row (b := bp) (c := #[.int .i64 0, .int .i64 2, .int .i64 0, .int .i64 0, .string ⟨#[]⟩, .slice ao2 1 cp]) (t := 24) (by simp))
    go_wp2_with fail
    clear c0 c1 c2 c3 c4 c5
    refine (F4a.out _ HI.out).mono ?_
    rintro e w5 ⟨rfl, hb5⟩
    have HF5 := Lib.hid (HF.out.below hb5)
    have HI5 := Lib.hid (HI.out.sub hb5)
    clear hb5 HF HI F4a
    have hn5 : (w5.alloc (.cells #[.int .i64 0, .int .i64 0, .bool false, .string ⟨#[]⟩, .string ⟨#[]⟩] 26)).heap[w5.heap.size]? = some (.cells #[.int .i64 0, .int .i64 0, .bool false, .string ⟨#[]⟩, .string ⟨#[]⟩] 26 (0, 0)) := heap_alloc_new w5 _
    go_upto_region 4 with (refine wpList_st_row rfl 26 _ _ rfl w5.heap.size rfl _ rfl hn5 (by kernel_rfl) rfl (by simp [Value.oneCell']) (fun w6 hp6 hg6 => ?_); have HF6 := Lib.hid (HF5.out.fresh hg6 hp6); have HI6 := Lib.hid (HI5.out.sub (fresh_below hg6)); clear hp6 hg6)
    clear hn5 HF5 HI5
    generalize w5.heap.size = bt at *
    obtain ⟨c0, c1, c2, c3, c4, c5⟩ := pk_cells (HF6.out.row (b := bp) (c := #[.int .i64 0, .int .i64 2, .int .i64 0, .int .i64 0, .string ⟨#[]⟩, .slice ao2 1 cp]) (t := 24) (by simp))
    go_wp2_with fail
    clear c0 c1 c2 c3 c4 c5
    refine (F5a.out _ HI6.out).mono ?_
    rintro e w7 ⟨rfl, hb7⟩
    have HF7 := Lib.hid (HF6.out.below hb7)
    have HI7 := Lib.hid (HI6.out.sub hb7)
    clear hb7 HF6 HI6 F5a
    have hn7 : (w7.alloc (.cells #[.int .i64 0, .int .i64 0, .bool false, .string ⟨#[]⟩, .string ⟨#[]⟩] 26)).heap[w7.heap.size]? = some (.cells #[.int .i64 0, .int .i64 0, .bool false, .string ⟨#[]⟩, .string ⟨#[]⟩] 26 (0, 0)) := heap_alloc_new w7 _
    go_upto_region 5 with (refine wpList_st_row rfl 26 _ _ rfl w7.heap.size rfl _ rfl hn7 (by kernel_rfl) rfl (by simp [Value.oneCell']) (fun w8 hp8 hg8 => ?_); have HF8 := Lib.hid (HF7.out.fresh hg8 hp8); have HI8 := Lib.hid (HI7.out.sub (fresh_below hg8)); clear hp8 hg8)
    clear hn7 HF7 HI7
    generalize w7.heap.size = bu at *
    obtain ⟨c0, c1, c2, c3, c4, c5⟩ := pk_cells (HF8.out.row (b := bp) (c := #[.int .i64 0, .int .i64 2, .int .i64 0, .int .i64 0, .string ⟨#[]⟩, .slice ao2 1 cp]) (t := 24) (by simp))
    go_wp2_with fail
    clear c0 c1 c2 c3 c4 c5
    refine (F6a.out _ HI8.out).mono ?_
    rintro e w9 ⟨rfl, hb9⟩
    have HF9 := Lib.hid (HF8.out.below hb9)
    have HI9 := Lib.hid (HI8.out.sub hb9)
    clear hb9 HF8 HI8 F6a
    have hn9 : (w9.alloc (.cells #[.int .i64 0, .int .i64 0, .int .i64 0, .int .u8 0, .int .i64 0, .int .i64 0, .int .i64 0, .int .i64 0, .int .i64 0, .int .i64 0, .string ⟨#[]⟩, .slice none 0 0, .slice none 0 0, .slice none 0 0, .slice none 0 0, .slice none 0 0] 34)).heap[w9.heap.size]? = some (.cells #[.int .i64 0, .int .i64 0, .int .i64 0, .int .u8 0, .int .i64 0, .int .i64 0, .int .i64 0, .int .i64 0, .int .i64 0, .int .i64 0, .string ⟨#[]⟩, .slice none 0 0, .slice none 0 0, .slice none 0 0, .slice none 0 0, .slice none 0 0] 34 (0, 0)) := heap_alloc_new w9 _
    go_upto_region 6 with (refine wpList_st_row rfl 34 _ _ rfl w9.heap.size rfl _ rfl hn9 (by kernel_rfl) rfl (by simp [Value.oneCell']) (fun w10 hp10 hg10 => ?_); have HF10 := Lib.hid (HF9.out.fresh hg10 hp10); have HI10 := Lib.hid (HI9.out.sub (fresh_below hg10)); clear hp10 hg10)
    clear hn9 HF9 HI9
    generalize w9.heap.size = bm at *
    obtain ⟨t0, t1, t2, t3, t4⟩ := tu_cell (HF10.out.row (b := bt) (c := #[.int .i64 3, .int .i64 0, .bool false, .string ⟨#[97]⟩, .string ⟨#[120]⟩]) (t := 26) (by simp))
    obtain ⟨d3, d4, d6, d7, d8, d10⟩ := rec_cell (HF10.out.row (b := b1) (c := #[.int .i64 0, .int .i64 0, .int .i64 0, .int .u8 1, .int .i64 3, .int .i64 7, .int .i64 0, .int .i64 0, .int .i64 0, .int .i64 0, .string s, .slice none 0 0, .slice none 0 0, .slice none 0 0, .slice none 0 0, .slice none 0 0]) (t := 34) (by simp))
    obtain ⟨m3, m4, m6, m7, m8, m10⟩ := rec_cell (HF10.out.row (b := bm) (c := #[.int .i64 0, .int .i64 0, .int .i64 0, .int .u8 2, .int .i64 5, .int .i64 7, .int .i64 0, .int .i64 0, .int .i64 5, .int .i64 0, .string ⟨#[]⟩, .slice none 0 0, .slice none 0 0, .slice none 0 0, .slice none 0 0, .slice none 0 0]) (t := 34) (by simp))
    go_wp2_with fail
    clear t0 t1 t2 t3 t4 d3 d4 d6 d7 d8 d10 m3 m4 m6 m7 m8 m10
    refine (F1.out _).mono ?_
    rintro e w11 ⟨rfl, hb11⟩
    have HF11 := Lib.hid (HF10.out.below hb11)
    have HI11 := Lib.hid (HI10.out.sub hb11)
    clear hb11 HF10 HI10 F1
    go_wp2_with fail
    refine (F7.out _).mono ?_
    rintro e w12 ⟨rfl, hb12⟩
    have HF12 := Lib.hid (HF11.out.below hb12)
    have HI12 := Lib.hid (HI11.out.sub hb12)
    clear hb12 HF11 HI11 F7
    obtain ⟨c0, c1, c2, c3, c4, c5⟩ := pk_cells (HF12.out.row (b := bp) (c := #[.int .i64 0, .int .i64 2, .int .i64 0, .int .i64 0, .string ⟨#[]⟩, .slice ao2 1 cp]) (t := 24) (by simp))
    go_wp2_with fail
    clear c0 c1 c2 c3 c4 c5
    refine (F8a.out _ HI12.out).mono ?_
    rintro e w13 ⟨⟨ga, cq, rfl⟩, hb13⟩
    have HF13 := Lib.hid (HF12.out.below hb13)
    clear hb13 HF12 HI12 F8a
    go_wp2_with fail
    go_ret
    exact ⟨rfl, HF13.out.bel⟩
end Go.Proofs.Ytkjnjccjkjachaa
