/- The walk of HeapKeys. -/
import Derived.Test.YtkjnjccjkjachaaHpN
namespace Go.Proofs.Ytkjnjccjkjachaa
open Go.RowKit
set_option linter.unusedSimpArgs false
set_option linter.unusedVariables false
set_option maxRecDepth 100000

theorem cellsK_get : ∀ {l : List (ByteArray × Nat)} {j : Nat} {k : ByteArray} {i : Nat}, l[j]? = some (k, i) → (cellsK l)[j * 3]? = some (.string k) ∧ (cellsK l)[j * 3 + 1]? = some (.int .i64 0) ∧ (cellsK l)[j * 3 + 2]? = some (.int .i64 i)
  | [], j, k, i, h => by simp at h
  | a :: l, 0, k, i, h => by
    simp at h
    subst h
    exact ⟨rfl, rfl, rfl⟩
  | a :: l, j + 1, k, i, h => by
    have h1 := cellsK_get (l := l) (j := j) (k := k) (i := i) (by simpa using h)
    rw [show (j + 1) * 3 = j * 3 + 3 by omega]
    exact h1
theorem ent_cells {w : World} {B g n cp : Nat} {l : List (ByteArray × Nat)} (h : ownE w B (.slice (some ⟨g, 0, none⟩) n cp) l) {j : Nat} {k : ByteArray} {i : Nat} (hj : l[j]? = some (k, i)) :
    w.cell? ⟨g, j * 3, none⟩ = some (.string k) ∧ w.cell? ⟨g, j * 3 + 1, none⟩ = some (.int .i64 0) ∧ w.cell? ⟨g, j * 3 + 2, none⟩ = some (.int .i64 i) := by
  obtain ⟨hl, ⟨h1, _⟩ | ⟨g', cap', cur, h1, hg1, hg2, hg3, hg4, hg5, hg6⟩⟩ := h
  · simp at h1
  · simp only [Value.slice.injEq, Option.some.injEq, Addr.mk.injEq, and_true, true_and] at h1
    obtain ⟨rfl, _, _⟩ := h1
    have hlt : j < l.length := (List.getElem?_eq_some_iff.1 hj).1
    obtain ⟨q0, q1, q2⟩ := cellsK_get hj
    have hc : ∀ (m : Nat) (v : Value), m < l.length * 3 → (cellsK l)[m]? = some v → w.cell? ⟨g, m, none⟩ = some v := fun m v hm hv => by
      rw [← hg6, List.getElem?_take, if_pos hm] at hv
      simp only [World.cell?, hg2]
      rw [← Array.getElem?_toList, hv]
      rfl
    exact ⟨hc _ _ (by omega) q0, hc _ _ (by omega) q1, hc _ _ (by omega) q2⟩
theorem keysL_pre (S : Nat → ByteArray) {i n : Nat} (h : i ≤ n) : ∃ r, keysL S n = keysL S i ++ r := by
  induction n with
  | zero => exact ⟨[], by rw [Nat.le_zero.1 h]; rfl⟩
  | succ n ih =>
    rcases Nat.lt_or_ge n i with h1 | h1
    · exact ⟨[], by rw [show i = n + 1 by omega, List.append_nil]⟩
    · obtain ⟨r, hr⟩ := ih h1
      cases hkv : keyV (S n) with
      | none => exact ⟨r, by rw [keysL_none hkv, hr]⟩
      | some k => exact ⟨r ++ [(k, n)], by rw [keysL_some hkv, hr, List.append_assoc]⟩
theorem keysL_at {S : Nat → ByteArray} {i n : Nat} {k : ByteArray} (h : i < n) (hk : keyV (S i) = some k) : (keysL S n)[(keysL S i).length]? = some (k, i) := by
  obtain ⟨r, hr⟩ := keysL_pre S (show i + 1 ≤ n by omega)
  rw [hr, keysL_some hk, List.append_assoc]
  simp
/-- What a slot is. -/
theorem st_cases (s : ByteArray) : (∃ x y f k v, decV s = some (x, y, f, k, v) ∧ stV s = 3 ∧ keyV s = some k) ∨ (∃ k, decV s = none ∧ stV s = 2 ∧ keyV s = some k) ∨ (stV s ≠ 3 ∧ stV s ≠ 2 ∧ keyV s = none) := by
  by_cases h0 : s.size = 0
  · refine .inr (.inr ⟨?_, ?_, ?_⟩)
    · unfold stV; rw [if_pos h0]; decide
    · unfold stV; rw [if_pos h0]; decide
    · unfold keyV; rw [dec_empty h0]; exact bur_empty h0
  · cases hd : decV s with
    | some q =>
      obtain ⟨x, y, f, k, v⟩ := q
      refine .inl ⟨x, y, f, k, v, rfl, ?_, ?_⟩
      · unfold stV; rw [if_neg h0, hd]; rfl
      · unfold keyV; rw [hd]
    | none =>
      cases hb : burV s with
      | some k =>
        refine .inr (.inl ⟨k, rfl, ?_, ?_⟩)
        · unfold stV; rw [if_neg h0, hd, hb]; rfl
        · unfold keyV; rw [hd]; exact hb
      | none =>
        have e : stV s = 0 := by unfold stV; rw [if_neg h0, hd, hb]; rfl
        refine .inr (.inr ⟨by rw [e]; decide, by rw [e]; decide, ?_⟩)
        unfold keyV; rw [hd]; exact hb
theorem atRes_form (D : Option (Int × Int × Bool × ByteArray × ByteArray)) : ∃ (x y : Int) (f : Bool) (k v : ByteArray), atRes D = .tuple #[.agg #[.int .i64 x, .int .i64 y, .bool f, .string k, .string v], .bool D.isSome] := by
  rcases D with _ | ⟨x, y, f, k, v⟩
  · exact ⟨_, _, _, _, _, rfl⟩
  · exact ⟨_, _, _, _, _, rfl⟩

theorem ownE_kept {w w' : World} {B : Nat} {v : Value} {l : List (ByteArray × Nat)} (h : ownE w B v l) {b : Nat} (hg : w.grownBy w' (some b)) (hb : v.ownBlock ≠ some b) : ownE w' B v l := h.kept hg (.inr hb)

set_option maxHeartbeats 16000000 in
theorem heapKeys_w (a0 a1 a2 a3 : Int) (h : ByteArray) (ao : Option Addr) (len cap : Nat) (S : Nat → ByteArray) (other : ByteArray) (w : World) (hlen : len ≤ 4398046511000) (hs : StrsIn w ao len S) :
    Calls Try.prog 5 #[.agg #[.int .i64 a0, .int .i64 a1, .int .i64 a2, .int .i64 a3, .string h, .slice ao len cap], .string other] w fun e w' => e = .returned (.bool true) ∧ Below w.heap.size w w' := by
  have HS := Lib.hid hs
  have h0 := (Fr.refl w).alloc #[.int .i64 a0, .int .i64 a1, .int .i64 a2, .int .i64 a3, .string h, .slice ao len cap] 24
  obtain ⟨wc, hwc⟩ : ∃ wc, wc = w.alloc (.cells #[.int .i64 a0, .int .i64 a1, .int .i64 a2, .int .i64 a3, .string h, .slice ao len cap] 24) := ⟨_, rfl⟩
  obtain ⟨bt, hbt⟩ : ∃ bt, bt = w.heap.size := ⟨_, rfl⟩
  rw [← hwc, ← hbt] at h0
  have H1 := Lib.hid h0
  have HWC := Lib.hid hwc
  have HBT := Lib.hid hbt
  clear h0 hwc hbt hs
  have FA := Lib.hid awake_c
  have FK := Lib.hid (fun w' hh => keys_c a0 a1 a2 a3 h ao len cap S w' hlen hh)
  have FL := Lib.hid (fun slot key w' hh => look_c a0 a1 a2 a3 h ao len cap S slot key w' (by omega) hh)
  go_enter Try.func5, Try.ntmps5
  have c := pk_cells (H1.out.row (b := bt) (c := #[.int .i64 a0, .int .i64 a1, .int .i64 a2, .int .i64 a3, .string h, .slice ao len cap]) (t := 24) (by simp))
  rw [HWC.out, HBT.out] at c
  obtain ⟨c0, c1, c2, c3, c4, c5⟩ := c
  go_wp2_with fail
  clear c0 c1 c2 c3 c4 c5
  rw [← HWC.out, ← HBT.out]
  clear HWC HBT
  refine (FK.out _ (HS.out.below H1.out.bel rfl)).mono ?_
  rintro e w2 ⟨v, rfl, hv, hb2⟩
  have H2 := Lib.hid (H1.out.below hb2)
  clear hb2 H1 FK
  obtain ⟨K, hK⟩ : ∃ K, K = keysOf a1 S len := ⟨_, rfl⟩
  rw [← hK] at hv
  have HKK := Lib.hid hK
  have hkl : K.length ≤ len := by
    rw [hK]; unfold keysOf; split
    · exact keysL_len S len
    · exact Nat.zero_le _
  obtain ⟨ga, cp, rfl, hga⟩ : ∃ ga cp, v = .slice ga K.length cp ∧ (0 < K.length → ∃ g, ga = some ⟨g, 0, none⟩) := by
    obtain ⟨_, ⟨rfl, h0⟩ | ⟨g, cp, cur, rfl, _⟩⟩ := hv
    · exact ⟨none, 0, by rw [h0], fun h => by omega⟩
    · exact ⟨_, cp, rfl, fun _ => ⟨g, rfl⟩⟩
  have HV := Lib.hid hv
  have HGA := Lib.hid hga
  obtain ⟨B, hB⟩ : ∃ B, B = wc.heap.size := ⟨_, rfl⟩
  rw [← hB] at HV
  clear hv hga hK hB
  go_wp2_with fail
  go_loopw [6, 7] (fun a i wr => ∃ k : Nat, k ≤ len ∧ i = .int .i64 k ∧ ∃ m : Nat, a = .int .i64 m ∧ Hid ((a1 = 2 → m = (keysL S k).length) ∧ (a1 ≠ 2 → m = 0) ∧ m ≤ len) ∧ Hid (Fr w wr [(bt, #[.int .i64 a0, .int .i64 a1, .int .i64 a2, .int .i64 a3, .string h, .slice ao len cap], 24)] ∧ ownE wr B (.slice ga K.length cp) K)) (fun _ i _ => len - (intOf i).toNat)
  case atStart => exact ⟨0, Nat.zero_le _, rfl, 0, rfl, ⟨fun _ => rfl, fun _ => rfl, Nat.zero_le _⟩, H2.out, HV.out⟩
  case round =>
    obtain ⟨k, hk, rfl, m, rfl, HM, HK⟩ := hrel
    have HF := Lib.hid HK.out.1
    have HE := Lib.hid HK.out.2
    clear HK
    obtain ⟨c0, c1, c2, c3, c4, c5⟩ := pk_cells (HF.out.row (b := bt) (c := #[.int .i64 a0, .int .i64 a1, .int .i64 a2, .int .i64 a3, .string h, .slice ao len cap]) (t := 24) (by simp))
    have hml := HM.out.2.2
    by_cases hlt : k < len
    · by_cases ha1 : a1 = 2
      · obtain ⟨b, off, rfl, hc, hsz⟩ := (HS.out.below HF.out.bel rfl) k hlt
        have FS := Lib.hid (fun w' => state_c (S k) w' hsz)
        have HAT : Hid (atV a1 S len k = decV (S k)) := by
          unfold Hid atV
          rw [if_pos ⟨ha1, by omega, by omega⟩]
          rfl
        subst ha1
        have HM2 : Hid (m = (keysL S k).length) := HM.out.1 rfl
        have HKL : Hid (K = keysL S len) := by unfold Hid; rw [HKK.out]; unfold keysOf; rw [if_pos rfl]
        clear hsz HM
        rcases st_cases (S k) with ⟨x, y, f, key, u, hd, hst, hkv⟩ | ⟨key, hd, hst, hkv⟩ | ⟨hn3, hn2, hkv⟩
        · have hm : K[m]? = some (key, k) := by rw [HKL.out, HM2.out]; exact keysL_at hlt hkv
          have HNX := Lib.hid (keysL_some hkv)
          have hmk : m < K.length := (List.getElem?_eq_some_iff.1 hm).1
          obtain ⟨g, rfl⟩ := HGA.out (by omega)
          obtain ⟨q0, q1, q2⟩ := ent_cells HE.out hm
          rw [hst] at FS
          rw [hd] at HAT
          have FL1 := Lib.hid (FL.out k key)
          rw [HAT.out] at FL1
          have FL2 := Lib.hid (FL.out k other)
          rw [HAT.out] at FL2
          have HLN : Hid (m + 1 = (keysL S (k + 1)).length) := by unfold Hid; rw [HNX.out, List.length_append, ← HM2.out]; rfl
          clear hst hkv hd
          go_wp2_with fail
          clear c0 c1 c2 c3 c4 c5 hc
          refine (FS.out _).mono ?_
          rintro e w3 ⟨rfl, hb3⟩
          have HF3 := Lib.hid (HF.out.below hb3)
          have HE3 := Lib.hid (ownE_below HE.out hb3)
          have q0 := bel_at hb3 q0
          have q1 := bel_at hb3 q1
          have q2 := bel_at hb3 q2
          clear hb3 HF HE FS
          rw [lookD_same] at FL1
          unfold atRes at FL1
          go_upto_region 10 with (fail)
          clear q0 q1 q2
          have HMK := Lib.hid hm
          have HD0 : Hid (Fr w w3.drew [(bt, #[.int .i64 a0, .int .i64 2, .int .i64 a2, .int .i64 a3, .string h, .slice (some ⟨b, off, none⟩) len cap], 24)]) := HF3.out.below (by exact (Below.refl _ _).drew)
          have HE0 : Hid (ownE w3.drew B (.slice (some ⟨g, 0, none⟩) K.length cp) K) := ownE_below HE3.out (by exact (Below.refl _ _).drew)
          clear hm HF3 HE3
          go_cut [10] (fun s10 wx => s10 = .bool true ∧ Hid (Fr w wx [(bt, #[.int .i64 a0, .int .i64 2, .int .i64 a2, .int .i64 a3, .string h, .slice (some ⟨b, off, none⟩) len cap], 24)] ∧ ownE wx B (.slice (some ⟨g, 0, none⟩) K.length cp) K))
          case first =>
            have HD := Lib.hid HD0.out
            have HEc := Lib.hid HE0.out
            clear HD0 HE0
            refine wp_region_held_drew (S := fun wx => wx.heap[bt]? = some (.cells #[.int .i64 a0, .int .i64 2, .int .i64 a2, .int .i64 a3, .string h, .slice (some ⟨b, off, none⟩) len cap] 24 (0, 0)) ∧ wx.cell? ⟨g, m * 3, none⟩ = some (.string key)) (by kernel_rfl) (⟨HD.out.row (b := bt) (c := #[.int .i64 a0, .int .i64 2, .int .i64 a2, .int .i64 a3, .string h, .slice (some ⟨b, off, none⟩) len cap]) (t := 24) (by simp), (ent_cells HEc.out HMK.out).1⟩) (fun hHeld => ?_)
            generalize w3.drew = wd at *
            refine take_op (i := 0) (d := some 61) (v := ?_) rfl rfl (by kernel_rfl) (by kernel_rfl) (by kernel_rfl) (fun _ _ _ h => h) (Or.inl ⟨by rfl, ?_⟩) (by assumption) ?_
            rotate_left
            · (intro w' hSw; (try dsimp only at hSw); obtain ⟨hS1, q0⟩ := hSw; obtain ⟨c0, c1, c2, c3, c4, c5⟩ := pk_cells hS1; go_simp; try (with_reducible rfl))
            try simp only [Act.put, List.setIfInBounds_toArray, List.set_cons_zero, List.set_cons_succ]
            refine take_op (i := 1) (d := some 62) (v := ?_) rfl rfl (by kernel_rfl) (by kernel_rfl) (by kernel_rfl) (fun _ _ _ h => h) (Or.inl ⟨by rfl, ?_⟩) (by assumption) ?_
            rotate_left
            · (intro w' hSw; (try dsimp only at hSw); obtain ⟨hS1, q0⟩ := hSw; obtain ⟨c0, c1, c2, c3, c4, c5⟩ := pk_cells hS1; go_simp; try (with_reducible rfl))
            try simp only [Act.put, List.setIfInBounds_toArray, List.set_cons_zero, List.set_cons_succ]
            refine take_op (i := 2) (d := some 63) (v := ?_) rfl rfl (by kernel_rfl) (by kernel_rfl) (by kernel_rfl) (fun _ _ _ h => h) (Or.inl ⟨by rfl, ?_⟩) (by assumption) ?_
            rotate_left
            · (intro w' hSw; (try dsimp only at hSw); obtain ⟨hS1, q0⟩ := hSw; obtain ⟨c0, c1, c2, c3, c4, c5⟩ := pk_cells hS1; go_simp; try (with_reducible rfl))
            try simp only [Act.put, List.setIfInBounds_toArray, List.set_cons_zero, List.set_cons_succ]
            refine take_op (i := 3) (d := some 64) (v := ?_) rfl rfl (by kernel_rfl) (by kernel_rfl) (by kernel_rfl) (fun _ _ _ h => h) (Or.inl ⟨by rfl, ?_⟩) (by assumption) ?_
            rotate_left
            · (intro w' hSw; (try dsimp only at hSw); obtain ⟨hS1, q0⟩ := hSw; obtain ⟨c0, c1, c2, c3, c4, c5⟩ := pk_cells hS1; go_simp; try (with_reducible rfl))
            try simp only [Act.put, List.setIfInBounds_toArray, List.set_cons_zero, List.set_cons_succ]
            refine take_op (i := 4) (d := some 65) (v := ?_) rfl rfl (by kernel_rfl) (by kernel_rfl) (by kernel_rfl) (fun _ _ _ h => h) (Or.inl ⟨by rfl, ?_⟩) (by assumption) ?_
            rotate_left
            · (intro w' hSw; (try dsimp only at hSw); obtain ⟨hS1, q0⟩ := hSw; obtain ⟨c0, c1, c2, c3, c4, c5⟩ := pk_cells hS1; go_simp; try (with_reducible rfl))
            try simp only [Act.put, List.setIfInBounds_toArray, List.set_cons_zero, List.set_cons_succ]
            refine take_op (i := 5) (d := some 66) (v := ?_) rfl rfl (by kernel_rfl) (by kernel_rfl) (by kernel_rfl) (fun _ _ _ h => h) (Or.inl ⟨by rfl, ?_⟩) (by assumption) ?_
            rotate_left
            · (intro w' hSw; (try dsimp only at hSw); obtain ⟨hS1, q0⟩ := hSw; obtain ⟨c0, c1, c2, c3, c4, c5⟩ := pk_cells hS1; go_simp; try (with_reducible rfl))
            try simp only [Act.put, List.setIfInBounds_toArray, List.set_cons_zero, List.set_cons_succ]
            refine take_op (i := 6) (d := some 67) (v := ?_) rfl rfl (by kernel_rfl) (by kernel_rfl) (by kernel_rfl) (fun _ _ _ h => h) (Or.inl ⟨by rfl, ?_⟩) (by assumption) ?_
            rotate_left
            · (intro w' hSw; (try dsimp only at hSw); obtain ⟨hS1, q0⟩ := hSw; obtain ⟨c0, c1, c2, c3, c4, c5⟩ := pk_cells hS1; go_simp; try (with_reducible rfl))
            try simp only [Act.put, List.setIfInBounds_toArray, List.set_cons_zero, List.set_cons_succ]
            refine wpAnyH_ready (rs := [7, 11]) (by kernel_rfl) (by simp) ?_
            refine AllReadyH.cons rfl (fun K hK => ?_) (AllReadyH.cons rfl (fun K hK => ?_) AllReadyH.nil)
            · go_simp
              refine (FL1.out _ (HS.out.below HD.out.bel rfl)).mono ?_
              rintro e w4 ⟨rfl, hb⟩
              have HD := Lib.hid (HD.out.below hb)
              have HEc := Lib.hid (ownE_below HEc.out hb)
              clear hb
              refine hK.out _ _ ⟨HD.out.row (b := bt) (c := #[.int .i64 a0, .int .i64 2, .int .i64 a2, .int .i64 a3, .string h, .slice (some ⟨b, off, none⟩) len cap]) (t := 24) (by simp), (ent_cells HEc.out HMK.out).1⟩ (fun hHeld => ?_)
              clear hK K
              try simp only [Act.put, List.setIfInBounds_toArray, List.set_cons_zero, List.set_cons_succ]
              refine take_op (i := 8) (d := some 60) (v := ?_) rfl rfl (by kernel_rfl) (by kernel_rfl) (by kernel_rfl) (fun _ _ _ h => h) (Or.inl ⟨by rfl, ?_⟩) (by assumption) ?_
              rotate_left
              · (intro w' hSw; (try dsimp only at hSw); obtain ⟨hS1, q0⟩ := hSw; obtain ⟨c0, c1, c2, c3, c4, c5⟩ := pk_cells hS1; go_simp; try (with_reducible rfl))
              try simp only [Act.put, List.setIfInBounds_toArray, List.set_cons_zero, List.set_cons_succ]
              refine take_op (i := 9) (d := some 69) (v := ?_) rfl rfl (by kernel_rfl) (by kernel_rfl) (by kernel_rfl) (fun _ _ _ h => h) (Or.inl ⟨by rfl, ?_⟩) (by assumption) ?_
              rotate_left
              · (intro w' hSw; (try dsimp only at hSw); obtain ⟨hS1, q0⟩ := hSw; obtain ⟨c0, c1, c2, c3, c4, c5⟩ := pk_cells hS1; go_simp; try (with_reducible rfl))
              try simp only [Act.put, List.setIfInBounds_toArray, List.set_cons_zero, List.set_cons_succ]
              refine take_op (i := 10) (d := some 70) (v := ?_) rfl rfl (by kernel_rfl) (by kernel_rfl) (by kernel_rfl) (fun _ _ _ h => h) (Or.inl ⟨by rfl, ?_⟩) (by assumption) ?_
              rotate_left
              · (intro w' hSw; (try dsimp only at hSw); obtain ⟨hS1, q0⟩ := hSw; obtain ⟨c0, c1, c2, c3, c4, c5⟩ := pk_cells hS1; go_simp; try (with_reducible rfl))
              try simp only [Act.put, List.setIfInBounds_toArray, List.set_cons_zero, List.set_cons_succ]
              refine wpAnyH_ready (rs := [11]) (by kernel_rfl) (by simp) ?_
              refine AllReadyH.cons rfl (fun K hK => ?_) AllReadyH.nil
              go_simp
              have HA : Hid ((w4.alloc (.cells #[.int .i64 0, .int .i64 0, .bool false, .string ⟨#[]⟩, .string ⟨#[]⟩] 26)).heap[w4.heap.size]? = some (.cells #[.int .i64 0, .int .i64 0, .bool false, .string ⟨#[]⟩, .string ⟨#[]⟩] 26 (0, 0))) := heap_alloc_new _ _
              have HNE : Hid (bt < w4.heap.size ∧ g < w4.heap.size) := ⟨row_lt (HD.out.row (b := bt) (c := #[.int .i64 a0, .int .i64 2, .int .i64 a2, .int .i64 a3, .string h, .slice (some ⟨b, off, none⟩) len cap]) (t := 24) (by simp)), (HEc.out.lt g rfl).2⟩
              have HWB := Lib.hid HD.out.bel.size
              have ha := (Below.refl w4.heap.size w4).alloc (Nat.le_refl _) (.cells #[.int .i64 0, .int .i64 0, .bool false, .string ⟨#[]⟩, .string ⟨#[]⟩] 26)
              have HD := Lib.hid (HD.out.below ha)
              have HEc := Lib.hid (ownE_below HEc.out ha)
              clear ha
              refine hK.out _ _ ⟨HD.out.row (b := bt) (c := #[.int .i64 a0, .int .i64 2, .int .i64 a2, .int .i64 a3, .string h, .slice (some ⟨b, off, none⟩) len cap]) (t := 24) (by simp), (ent_cells HEc.out HMK.out).1⟩ (fun hHeld => ?_)
              clear hK K
              try simp only [Act.put, List.setIfInBounds_toArray, List.set_cons_zero, List.set_cons_succ]
              generalize w4.alloc (.cells #[.int .i64 0, .int .i64 0, .bool false, .string ⟨#[]⟩, .string ⟨#[]⟩] 26) = w9 at *
              generalize w4.heap.size = ba at *
              refine wpAnyH_ready (rs := [12]) (by kernel_rfl) (by simp) ?_
              refine AllReadyH.cons rfl (fun K hK => ?_) AllReadyH.nil
              rw [if_pos (by rfl)]
              refine wp_st_row 26 _ _ rfl ba rfl _ rfl HA.out (by kernel_rfl) rfl (by simp [Value.oneCell']) (fun w7 hp7 hg7 => ?_)
              try simp only [Act.put, List.setIfInBounds_toArray, List.set_cons_zero, List.set_cons_succ]
              have HD := Lib.hid (HD.out.grow hg7 (fun q hq => by have := HNE.out.1; simp at hq; subst hq; simp; omega) (fun b hb => by cases hb; exact HWB.out))
              have HEc := Lib.hid (ownE_kept HEc.out hg7 (by have := HNE.out.2; simp [Value.ownBlock]; omega))
              clear hp7 hg7
              refine hK.out _ _ ⟨HD.out.row (b := bt) (c := #[.int .i64 a0, .int .i64 2, .int .i64 a2, .int .i64 a3, .string h, .slice (some ⟨b, off, none⟩) len cap]) (t := 24) (by simp), (ent_cells HEc.out HMK.out).1⟩ (fun hHeld => ?_)
              clear hK K
              try simp only [Act.put, List.setIfInBounds_toArray, List.set_cons_zero, List.set_cons_succ]
              refine take_op (i := 13) (d := some 10) (v := ?_) rfl rfl (by kernel_rfl) (by kernel_rfl) (by kernel_rfl) (fun _ _ _ h => h) (Or.inl ⟨by rfl, ?_⟩) (by assumption) ?_
              rotate_left
              · (intro w' hSw; (try dsimp only at hSw); obtain ⟨hS1, q0⟩ := hSw; obtain ⟨c0, c1, c2, c3, c4, c5⟩ := pk_cells hS1; go_simp; try (with_reducible rfl))
              try simp only [Act.put, List.setIfInBounds_toArray, List.set_cons_zero, List.set_cons_succ]
              refine wpAnyH_done (by kernel_rfl) ?_ _
              go_wp2_with fail
              go_meet
              exact ⟨rfl, HD.out, HEc.out⟩
            · go_simp
              have HA : Hid ((wd.alloc (.cells #[.int .i64 0, .int .i64 0, .bool false, .string ⟨#[]⟩, .string ⟨#[]⟩] 26)).heap[wd.heap.size]? = some (.cells #[.int .i64 0, .int .i64 0, .bool false, .string ⟨#[]⟩, .string ⟨#[]⟩] 26 (0, 0))) := heap_alloc_new _ _
              have HNE : Hid (bt < wd.heap.size ∧ g < wd.heap.size) := ⟨row_lt (HD.out.row (b := bt) (c := #[.int .i64 a0, .int .i64 2, .int .i64 a2, .int .i64 a3, .string h, .slice (some ⟨b, off, none⟩) len cap]) (t := 24) (by simp)), (HEc.out.lt g rfl).2⟩
              have HWB := Lib.hid HD.out.bel.size
              have ha := (Below.refl wd.heap.size wd).alloc (Nat.le_refl _) (.cells #[.int .i64 0, .int .i64 0, .bool false, .string ⟨#[]⟩, .string ⟨#[]⟩] 26)
              have HD := Lib.hid (HD.out.below ha)
              have HEc := Lib.hid (ownE_below HEc.out ha)
              clear ha
              refine hK.out _ _ ⟨HD.out.row (b := bt) (c := #[.int .i64 a0, .int .i64 2, .int .i64 a2, .int .i64 a3, .string h, .slice (some ⟨b, off, none⟩) len cap]) (t := 24) (by simp), (ent_cells HEc.out HMK.out).1⟩ (fun hHeld => ?_)
              clear hK K
              try simp only [Act.put, List.setIfInBounds_toArray, List.set_cons_zero, List.set_cons_succ]
              generalize wd.alloc (.cells #[.int .i64 0, .int .i64 0, .bool false, .string ⟨#[]⟩, .string ⟨#[]⟩] 26) = w9 at *
              generalize wd.heap.size = ba at *
              refine wpAnyH_ready (rs := [7]) (by kernel_rfl) (by simp) ?_
              refine AllReadyH.cons rfl (fun K hK => ?_) AllReadyH.nil
              go_simp
              refine (FL1.out _ (HS.out.below HD.out.bel rfl)).mono ?_
              rintro e w4 ⟨rfl, hb⟩
              have HA := Lib.hid ((hb.block ba (row_lt HA.out)).trans HA.out)
              have HD := Lib.hid (HD.out.below hb)
              have HEc := Lib.hid (ownE_below HEc.out hb)
              clear hb
              refine hK.out _ _ ⟨HD.out.row (b := bt) (c := #[.int .i64 a0, .int .i64 2, .int .i64 a2, .int .i64 a3, .string h, .slice (some ⟨b, off, none⟩) len cap]) (t := 24) (by simp), (ent_cells HEc.out HMK.out).1⟩ (fun hHeld => ?_)
              clear hK K
              try simp only [Act.put, List.setIfInBounds_toArray, List.set_cons_zero, List.set_cons_succ]
              refine take_op (i := 8) (d := some 60) (v := ?_) rfl rfl (by kernel_rfl) (by kernel_rfl) (by kernel_rfl) (fun _ _ _ h => h) (Or.inl ⟨by rfl, ?_⟩) (by assumption) ?_
              rotate_left
              · (intro w' hSw; (try dsimp only at hSw); obtain ⟨hS1, q0⟩ := hSw; obtain ⟨c0, c1, c2, c3, c4, c5⟩ := pk_cells hS1; go_simp; try (with_reducible rfl))
              try simp only [Act.put, List.setIfInBounds_toArray, List.set_cons_zero, List.set_cons_succ]
              refine take_op (i := 9) (d := some 69) (v := ?_) rfl rfl (by kernel_rfl) (by kernel_rfl) (by kernel_rfl) (fun _ _ _ h => h) (Or.inl ⟨by rfl, ?_⟩) (by assumption) ?_
              rotate_left
              · (intro w' hSw; (try dsimp only at hSw); obtain ⟨hS1, q0⟩ := hSw; obtain ⟨c0, c1, c2, c3, c4, c5⟩ := pk_cells hS1; go_simp; try (with_reducible rfl))
              try simp only [Act.put, List.setIfInBounds_toArray, List.set_cons_zero, List.set_cons_succ]
              refine take_op (i := 10) (d := some 70) (v := ?_) rfl rfl (by kernel_rfl) (by kernel_rfl) (by kernel_rfl) (fun _ _ _ h => h) (Or.inl ⟨by rfl, ?_⟩) (by assumption) ?_
              rotate_left
              · (intro w' hSw; (try dsimp only at hSw); obtain ⟨hS1, q0⟩ := hSw; obtain ⟨c0, c1, c2, c3, c4, c5⟩ := pk_cells hS1; go_simp; try (with_reducible rfl))
              try simp only [Act.put, List.setIfInBounds_toArray, List.set_cons_zero, List.set_cons_succ]
              refine wpAnyH_ready (rs := [12]) (by kernel_rfl) (by simp) ?_
              refine AllReadyH.cons rfl (fun K hK => ?_) AllReadyH.nil
              rw [if_pos (by rfl)]
              refine wp_st_row 26 _ _ rfl ba rfl _ rfl HA.out (by kernel_rfl) rfl (by simp [Value.oneCell']) (fun w7 hp7 hg7 => ?_)
              try simp only [Act.put, List.setIfInBounds_toArray, List.set_cons_zero, List.set_cons_succ]
              have HD := Lib.hid (HD.out.grow hg7 (fun q hq => by have := HNE.out.1; simp at hq; subst hq; simp; omega) (fun b hb => by cases hb; exact HWB.out))
              have HEc := Lib.hid (ownE_kept HEc.out hg7 (by have := HNE.out.2; simp [Value.ownBlock]; omega))
              clear hp7 hg7
              refine hK.out _ _ ⟨HD.out.row (b := bt) (c := #[.int .i64 a0, .int .i64 2, .int .i64 a2, .int .i64 a3, .string h, .slice (some ⟨b, off, none⟩) len cap]) (t := 24) (by simp), (ent_cells HEc.out HMK.out).1⟩ (fun hHeld => ?_)
              clear hK K
              try simp only [Act.put, List.setIfInBounds_toArray, List.set_cons_zero, List.set_cons_succ]
              refine take_op (i := 13) (d := some 10) (v := ?_) rfl rfl (by kernel_rfl) (by kernel_rfl) (by kernel_rfl) (fun _ _ _ h => h) (Or.inl ⟨by rfl, ?_⟩) (by assumption) ?_
              rotate_left
              · (intro w' hSw; (try dsimp only at hSw); obtain ⟨hS1, q0⟩ := hSw; obtain ⟨c0, c1, c2, c3, c4, c5⟩ := pk_cells hS1; go_simp; try (with_reducible rfl))
              try simp only [Act.put, List.setIfInBounds_toArray, List.set_cons_zero, List.set_cons_succ]
              refine wpAnyH_done (by kernel_rfl) ?_ _
              go_wp2_with fail
              go_meet
              exact ⟨rfl, HD.out, HEc.out⟩
          case rest =>
            obtain ⟨rfl, HC⟩ := hcut
            have HF := Lib.hid HC.out.1
            have HE := Lib.hid HC.out.2
            clear HC HD0 HE0 FL1
            obtain ⟨c0, c1, c2, c3, c4, c5⟩ := pk_cells (HF.out.row (b := bt) (c := #[.int .i64 a0, .int .i64 2, .int .i64 a2, .int .i64 a3, .string h, .slice (some ⟨b, off, none⟩) len cap]) (t := 24) (by simp))
            by_cases hko : key = other
            · subst hko
              rw [lookD_same] at FL2
              unfold atRes at FL2
              go_wp2_with fail
              clear c0 c1 c2 c3 c4 c5
              refine (FL2.out _ (HS.out.below HF.out.bel rfl)).mono ?_
              rintro e w5 ⟨rfl, hb5⟩
              have HF5 := Lib.hid (HF.out.below hb5)
              have HE5 := Lib.hid (ownE_below HE.out hb5)
              clear hb5 HF HE FL2
              have hnt : (w5.alloc (.cells #[.int .i64 0, .int .i64 0, .bool false, .string ⟨#[]⟩, .string ⟨#[]⟩] 26)).heap[w5.heap.size]? = some (.cells #[.int .i64 0, .int .i64 0, .bool false, .string ⟨#[]⟩, .string ⟨#[]⟩] 26 (0, 0)) := heap_alloc_new w5 _
              go_upto_region 12 with (refine wpList_st_row rfl 26 _ _ rfl w5.heap.size rfl _ rfl hnt (by kernel_rfl) rfl (by simp [Value.oneCell']) (fun w6 hp6 hg6 => ?_); have HF6 := Lib.hid (HF5.out.below (fresh_below hg6)); have HE6 := Lib.hid (ownE_below HE5.out (fresh_below hg6)); clear hp6 hg6)
              clear hnt HF5 HE5
              obtain ⟨q0, q1, q2⟩ := ent_cells HE6.out HMK.out
              go_wp2_with fail
              clear q0 q1 q2
              go_roundw
              case rel => exact ⟨k + 1, by omega, by go_num, m + 1, congrArg (Value.int .i64) (by omega), ⟨fun _ => HLN.out, fun e => absurd rfl e, by omega⟩, HF6.out, HE6.out⟩
              case measure => simp [intOf]; omega
            · rw [lookD_other _ _ _ _ hko] at FL2
              unfold atRes at FL2
              go_wp2_with fail
              clear c0 c1 c2 c3 c4 c5
              refine (FL2.out _ (HS.out.below HF.out.bel rfl)).mono ?_
              rintro e w5 ⟨rfl, hb5⟩
              have HF5 := Lib.hid (HF.out.below hb5)
              have HE5 := Lib.hid (ownE_below HE.out hb5)
              clear hb5 HF HE FL2
              have hnt : (w5.alloc (.cells #[.int .i64 0, .int .i64 0, .bool false, .string ⟨#[]⟩, .string ⟨#[]⟩] 26)).heap[w5.heap.size]? = some (.cells #[.int .i64 0, .int .i64 0, .bool false, .string ⟨#[]⟩, .string ⟨#[]⟩] 26 (0, 0)) := heap_alloc_new w5 _
              go_upto_region 12 with (refine wpList_st_row rfl 26 _ _ rfl w5.heap.size rfl _ rfl hnt (by kernel_rfl) rfl (by simp [Value.oneCell']) (fun w6 hp6 hg6 => ?_); have HF6 := Lib.hid (HF5.out.below (fresh_below hg6)); have HE6 := Lib.hid (ownE_below HE5.out (fresh_below hg6)); clear hp6 hg6)
              clear hnt HF5 HE5
              obtain ⟨q0, q1, q2⟩ := ent_cells HE6.out HMK.out
              go_wp2_with fail
              clear q0 q1 q2
              go_roundw
              case rel => exact ⟨k + 1, by omega, by go_num, m + 1, congrArg (Value.int .i64) (by omega), ⟨fun _ => HLN.out, fun e => absurd rfl e, by omega⟩, HF6.out, HE6.out⟩
              case measure => simp [intOf]; omega
        · have hm : K[m]? = some (key, k) := by rw [HKL.out, HM2.out]; exact keysL_at hlt hkv
          have HNX := Lib.hid (keysL_some hkv)
          have hmk : m < K.length := (List.getElem?_eq_some_iff.1 hm).1
          obtain ⟨g, rfl⟩ := HGA.out (by omega)
          obtain ⟨q0, q1, q2⟩ := ent_cells HE.out hm
          rw [hst] at FS
          rw [hd] at HAT
          have FL1 := Lib.hid (FL.out k key)
          rw [HAT.out] at FL1
          have FL2 := Lib.hid (FL.out k other)
          rw [HAT.out] at FL2
          have HLN : Hid (m + 1 = (keysL S (k + 1)).length) := by unfold Hid; rw [HNX.out, List.length_append, ← HM2.out]; rfl
          clear hst hkv hd
          go_wp2_with fail
          clear c0 c1 c2 c3 c4 c5 hc
          refine (FS.out _).mono ?_
          rintro e w3 ⟨rfl, hb3⟩
          have HF3 := Lib.hid (HF.out.below hb3)
          have HE3 := Lib.hid (ownE_below HE.out hb3)
          have q0 := bel_at hb3 q0
          have q1 := bel_at hb3 q1
          have q2 := bel_at hb3 q2
          clear hb3 HF HE FS
          unfold lookD atRes at FL1
          dsimp only at FL1
          go_upto_region 10 with (fail)
          clear q0 q1 q2
          have HMK := Lib.hid hm
          have HD0 : Hid (Fr w w3.drew [(bt, #[.int .i64 a0, .int .i64 2, .int .i64 a2, .int .i64 a3, .string h, .slice (some ⟨b, off, none⟩) len cap], 24)]) := HF3.out.below (by exact (Below.refl _ _).drew)
          have HE0 : Hid (ownE w3.drew B (.slice (some ⟨g, 0, none⟩) K.length cp) K) := ownE_below HE3.out (by exact (Below.refl _ _).drew)
          clear hm HF3 HE3
          go_cut [10] (fun s10 wx => s10 = .bool false ∧ Hid (Fr w wx [(bt, #[.int .i64 a0, .int .i64 2, .int .i64 a2, .int .i64 a3, .string h, .slice (some ⟨b, off, none⟩) len cap], 24)] ∧ ownE wx B (.slice (some ⟨g, 0, none⟩) K.length cp) K))
          case first =>
            have HD := Lib.hid HD0.out
            have HEc := Lib.hid HE0.out
            clear HD0 HE0
            refine wp_region_held_drew (S := fun wx => wx.heap[bt]? = some (.cells #[.int .i64 a0, .int .i64 2, .int .i64 a2, .int .i64 a3, .string h, .slice (some ⟨b, off, none⟩) len cap] 24 (0, 0)) ∧ wx.cell? ⟨g, m * 3, none⟩ = some (.string key)) (by kernel_rfl) (⟨HD.out.row (b := bt) (c := #[.int .i64 a0, .int .i64 2, .int .i64 a2, .int .i64 a3, .string h, .slice (some ⟨b, off, none⟩) len cap]) (t := 24) (by simp), (ent_cells HEc.out HMK.out).1⟩) (fun hHeld => ?_)
            generalize w3.drew = wd at *
            refine take_op (i := 0) (d := some 61) (v := ?_) rfl rfl (by kernel_rfl) (by kernel_rfl) (by kernel_rfl) (fun _ _ _ h => h) (Or.inl ⟨by rfl, ?_⟩) (by assumption) ?_
            rotate_left
            · (intro w' hSw; (try dsimp only at hSw); obtain ⟨hS1, q0⟩ := hSw; obtain ⟨c0, c1, c2, c3, c4, c5⟩ := pk_cells hS1; go_simp; try (with_reducible rfl))
            try simp only [Act.put, List.setIfInBounds_toArray, List.set_cons_zero, List.set_cons_succ]
            refine take_op (i := 1) (d := some 62) (v := ?_) rfl rfl (by kernel_rfl) (by kernel_rfl) (by kernel_rfl) (fun _ _ _ h => h) (Or.inl ⟨by rfl, ?_⟩) (by assumption) ?_
            rotate_left
            · (intro w' hSw; (try dsimp only at hSw); obtain ⟨hS1, q0⟩ := hSw; obtain ⟨c0, c1, c2, c3, c4, c5⟩ := pk_cells hS1; go_simp; try (with_reducible rfl))
            try simp only [Act.put, List.setIfInBounds_toArray, List.set_cons_zero, List.set_cons_succ]
            refine take_op (i := 2) (d := some 63) (v := ?_) rfl rfl (by kernel_rfl) (by kernel_rfl) (by kernel_rfl) (fun _ _ _ h => h) (Or.inl ⟨by rfl, ?_⟩) (by assumption) ?_
            rotate_left
            · (intro w' hSw; (try dsimp only at hSw); obtain ⟨hS1, q0⟩ := hSw; obtain ⟨c0, c1, c2, c3, c4, c5⟩ := pk_cells hS1; go_simp; try (with_reducible rfl))
            try simp only [Act.put, List.setIfInBounds_toArray, List.set_cons_zero, List.set_cons_succ]
            refine take_op (i := 3) (d := some 64) (v := ?_) rfl rfl (by kernel_rfl) (by kernel_rfl) (by kernel_rfl) (fun _ _ _ h => h) (Or.inl ⟨by rfl, ?_⟩) (by assumption) ?_
            rotate_left
            · (intro w' hSw; (try dsimp only at hSw); obtain ⟨hS1, q0⟩ := hSw; obtain ⟨c0, c1, c2, c3, c4, c5⟩ := pk_cells hS1; go_simp; try (with_reducible rfl))
            try simp only [Act.put, List.setIfInBounds_toArray, List.set_cons_zero, List.set_cons_succ]
            refine take_op (i := 4) (d := some 65) (v := ?_) rfl rfl (by kernel_rfl) (by kernel_rfl) (by kernel_rfl) (fun _ _ _ h => h) (Or.inl ⟨by rfl, ?_⟩) (by assumption) ?_
            rotate_left
            · (intro w' hSw; (try dsimp only at hSw); obtain ⟨hS1, q0⟩ := hSw; obtain ⟨c0, c1, c2, c3, c4, c5⟩ := pk_cells hS1; go_simp; try (with_reducible rfl))
            try simp only [Act.put, List.setIfInBounds_toArray, List.set_cons_zero, List.set_cons_succ]
            refine take_op (i := 5) (d := some 66) (v := ?_) rfl rfl (by kernel_rfl) (by kernel_rfl) (by kernel_rfl) (fun _ _ _ h => h) (Or.inl ⟨by rfl, ?_⟩) (by assumption) ?_
            rotate_left
            · (intro w' hSw; (try dsimp only at hSw); obtain ⟨hS1, q0⟩ := hSw; obtain ⟨c0, c1, c2, c3, c4, c5⟩ := pk_cells hS1; go_simp; try (with_reducible rfl))
            try simp only [Act.put, List.setIfInBounds_toArray, List.set_cons_zero, List.set_cons_succ]
            refine take_op (i := 6) (d := some 67) (v := ?_) rfl rfl (by kernel_rfl) (by kernel_rfl) (by kernel_rfl) (fun _ _ _ h => h) (Or.inl ⟨by rfl, ?_⟩) (by assumption) ?_
            rotate_left
            · (intro w' hSw; (try dsimp only at hSw); obtain ⟨hS1, q0⟩ := hSw; obtain ⟨c0, c1, c2, c3, c4, c5⟩ := pk_cells hS1; go_simp; try (with_reducible rfl))
            try simp only [Act.put, List.setIfInBounds_toArray, List.set_cons_zero, List.set_cons_succ]
            refine wpAnyH_ready (rs := [7, 11]) (by kernel_rfl) (by simp) ?_
            refine AllReadyH.cons rfl (fun K hK => ?_) (AllReadyH.cons rfl (fun K hK => ?_) AllReadyH.nil)
            · go_simp
              refine (FL1.out _ (HS.out.below HD.out.bel rfl)).mono ?_
              rintro e w4 ⟨rfl, hb⟩
              have HD := Lib.hid (HD.out.below hb)
              have HEc := Lib.hid (ownE_below HEc.out hb)
              clear hb
              refine hK.out _ _ ⟨HD.out.row (b := bt) (c := #[.int .i64 a0, .int .i64 2, .int .i64 a2, .int .i64 a3, .string h, .slice (some ⟨b, off, none⟩) len cap]) (t := 24) (by simp), (ent_cells HEc.out HMK.out).1⟩ (fun hHeld => ?_)
              clear hK K
              try simp only [Act.put, List.setIfInBounds_toArray, List.set_cons_zero, List.set_cons_succ]
              refine take_op (i := 8) (d := some 60) (v := ?_) rfl rfl (by kernel_rfl) (by kernel_rfl) (by kernel_rfl) (fun _ _ _ h => h) (Or.inl ⟨by rfl, ?_⟩) (by assumption) ?_
              rotate_left
              · (intro w' hSw; (try dsimp only at hSw); obtain ⟨hS1, q0⟩ := hSw; obtain ⟨c0, c1, c2, c3, c4, c5⟩ := pk_cells hS1; go_simp; try (with_reducible rfl))
              try simp only [Act.put, List.setIfInBounds_toArray, List.set_cons_zero, List.set_cons_succ]
              refine take_op (i := 9) (d := some 69) (v := ?_) rfl rfl (by kernel_rfl) (by kernel_rfl) (by kernel_rfl) (fun _ _ _ h => h) (Or.inl ⟨by rfl, ?_⟩) (by assumption) ?_
              rotate_left
              · (intro w' hSw; (try dsimp only at hSw); obtain ⟨hS1, q0⟩ := hSw; obtain ⟨c0, c1, c2, c3, c4, c5⟩ := pk_cells hS1; go_simp; try (with_reducible rfl))
              try simp only [Act.put, List.setIfInBounds_toArray, List.set_cons_zero, List.set_cons_succ]
              refine take_op (i := 10) (d := some 70) (v := ?_) rfl rfl (by kernel_rfl) (by kernel_rfl) (by kernel_rfl) (fun _ _ _ h => h) (Or.inl ⟨by rfl, ?_⟩) (by assumption) ?_
              rotate_left
              · (intro w' hSw; (try dsimp only at hSw); obtain ⟨hS1, q0⟩ := hSw; obtain ⟨c0, c1, c2, c3, c4, c5⟩ := pk_cells hS1; go_simp; try (with_reducible rfl))
              try simp only [Act.put, List.setIfInBounds_toArray, List.set_cons_zero, List.set_cons_succ]
              refine wpAnyH_ready (rs := [11]) (by kernel_rfl) (by simp) ?_
              refine AllReadyH.cons rfl (fun K hK => ?_) AllReadyH.nil
              go_simp
              have HA : Hid ((w4.alloc (.cells #[.int .i64 0, .int .i64 0, .bool false, .string ⟨#[]⟩, .string ⟨#[]⟩] 26)).heap[w4.heap.size]? = some (.cells #[.int .i64 0, .int .i64 0, .bool false, .string ⟨#[]⟩, .string ⟨#[]⟩] 26 (0, 0))) := heap_alloc_new _ _
              have HNE : Hid (bt < w4.heap.size ∧ g < w4.heap.size) := ⟨row_lt (HD.out.row (b := bt) (c := #[.int .i64 a0, .int .i64 2, .int .i64 a2, .int .i64 a3, .string h, .slice (some ⟨b, off, none⟩) len cap]) (t := 24) (by simp)), (HEc.out.lt g rfl).2⟩
              have HWB := Lib.hid HD.out.bel.size
              have ha := (Below.refl w4.heap.size w4).alloc (Nat.le_refl _) (.cells #[.int .i64 0, .int .i64 0, .bool false, .string ⟨#[]⟩, .string ⟨#[]⟩] 26)
              have HD := Lib.hid (HD.out.below ha)
              have HEc := Lib.hid (ownE_below HEc.out ha)
              clear ha
              refine hK.out _ _ ⟨HD.out.row (b := bt) (c := #[.int .i64 a0, .int .i64 2, .int .i64 a2, .int .i64 a3, .string h, .slice (some ⟨b, off, none⟩) len cap]) (t := 24) (by simp), (ent_cells HEc.out HMK.out).1⟩ (fun hHeld => ?_)
              clear hK K
              try simp only [Act.put, List.setIfInBounds_toArray, List.set_cons_zero, List.set_cons_succ]
              generalize w4.alloc (.cells #[.int .i64 0, .int .i64 0, .bool false, .string ⟨#[]⟩, .string ⟨#[]⟩] 26) = w9 at *
              generalize w4.heap.size = ba at *
              refine wpAnyH_ready (rs := [12]) (by kernel_rfl) (by simp) ?_
              refine AllReadyH.cons rfl (fun K hK => ?_) AllReadyH.nil
              rw [if_pos (by rfl)]
              refine wp_st_row 26 _ _ rfl ba rfl _ rfl HA.out (by kernel_rfl) rfl (by simp [Value.oneCell']) (fun w7 hp7 hg7 => ?_)
              try simp only [Act.put, List.setIfInBounds_toArray, List.set_cons_zero, List.set_cons_succ]
              have HD := Lib.hid (HD.out.grow hg7 (fun q hq => by have := HNE.out.1; simp at hq; subst hq; simp; omega) (fun b hb => by cases hb; exact HWB.out))
              have HEc := Lib.hid (ownE_kept HEc.out hg7 (by have := HNE.out.2; simp [Value.ownBlock]; omega))
              clear hp7 hg7
              refine hK.out _ _ ⟨HD.out.row (b := bt) (c := #[.int .i64 a0, .int .i64 2, .int .i64 a2, .int .i64 a3, .string h, .slice (some ⟨b, off, none⟩) len cap]) (t := 24) (by simp), (ent_cells HEc.out HMK.out).1⟩ (fun hHeld => ?_)
              clear hK K
              try simp only [Act.put, List.setIfInBounds_toArray, List.set_cons_zero, List.set_cons_succ]
              refine take_op (i := 13) (d := some 10) (v := ?_) rfl rfl (by kernel_rfl) (by kernel_rfl) (by kernel_rfl) (fun _ _ _ h => h) (Or.inl ⟨by rfl, ?_⟩) (by assumption) ?_
              rotate_left
              · (intro w' hSw; (try dsimp only at hSw); obtain ⟨hS1, q0⟩ := hSw; obtain ⟨c0, c1, c2, c3, c4, c5⟩ := pk_cells hS1; go_simp; try (with_reducible rfl))
              try simp only [Act.put, List.setIfInBounds_toArray, List.set_cons_zero, List.set_cons_succ]
              refine wpAnyH_done (by kernel_rfl) ?_ _
              go_wp2_with fail
              go_meet
              exact ⟨rfl, HD.out, HEc.out⟩
            · go_simp
              have HA : Hid ((wd.alloc (.cells #[.int .i64 0, .int .i64 0, .bool false, .string ⟨#[]⟩, .string ⟨#[]⟩] 26)).heap[wd.heap.size]? = some (.cells #[.int .i64 0, .int .i64 0, .bool false, .string ⟨#[]⟩, .string ⟨#[]⟩] 26 (0, 0))) := heap_alloc_new _ _
              have HNE : Hid (bt < wd.heap.size ∧ g < wd.heap.size) := ⟨row_lt (HD.out.row (b := bt) (c := #[.int .i64 a0, .int .i64 2, .int .i64 a2, .int .i64 a3, .string h, .slice (some ⟨b, off, none⟩) len cap]) (t := 24) (by simp)), (HEc.out.lt g rfl).2⟩
              have HWB := Lib.hid HD.out.bel.size
              have ha := (Below.refl wd.heap.size wd).alloc (Nat.le_refl _) (.cells #[.int .i64 0, .int .i64 0, .bool false, .string ⟨#[]⟩, .string ⟨#[]⟩] 26)
              have HD := Lib.hid (HD.out.below ha)
              have HEc := Lib.hid (ownE_below HEc.out ha)
              clear ha
              refine hK.out _ _ ⟨HD.out.row (b := bt) (c := #[.int .i64 a0, .int .i64 2, .int .i64 a2, .int .i64 a3, .string h, .slice (some ⟨b, off, none⟩) len cap]) (t := 24) (by simp), (ent_cells HEc.out HMK.out).1⟩ (fun hHeld => ?_)
              clear hK K
              try simp only [Act.put, List.setIfInBounds_toArray, List.set_cons_zero, List.set_cons_succ]
              generalize wd.alloc (.cells #[.int .i64 0, .int .i64 0, .bool false, .string ⟨#[]⟩, .string ⟨#[]⟩] 26) = w9 at *
              generalize wd.heap.size = ba at *
              refine wpAnyH_ready (rs := [7]) (by kernel_rfl) (by simp) ?_
              refine AllReadyH.cons rfl (fun K hK => ?_) AllReadyH.nil
              go_simp
              refine (FL1.out _ (HS.out.below HD.out.bel rfl)).mono ?_
              rintro e w4 ⟨rfl, hb⟩
              have HA := Lib.hid ((hb.block ba (row_lt HA.out)).trans HA.out)
              have HD := Lib.hid (HD.out.below hb)
              have HEc := Lib.hid (ownE_below HEc.out hb)
              clear hb
              refine hK.out _ _ ⟨HD.out.row (b := bt) (c := #[.int .i64 a0, .int .i64 2, .int .i64 a2, .int .i64 a3, .string h, .slice (some ⟨b, off, none⟩) len cap]) (t := 24) (by simp), (ent_cells HEc.out HMK.out).1⟩ (fun hHeld => ?_)
              clear hK K
              try simp only [Act.put, List.setIfInBounds_toArray, List.set_cons_zero, List.set_cons_succ]
              refine take_op (i := 8) (d := some 60) (v := ?_) rfl rfl (by kernel_rfl) (by kernel_rfl) (by kernel_rfl) (fun _ _ _ h => h) (Or.inl ⟨by rfl, ?_⟩) (by assumption) ?_
              rotate_left
              · (intro w' hSw; (try dsimp only at hSw); obtain ⟨hS1, q0⟩ := hSw; obtain ⟨c0, c1, c2, c3, c4, c5⟩ := pk_cells hS1; go_simp; try (with_reducible rfl))
              try simp only [Act.put, List.setIfInBounds_toArray, List.set_cons_zero, List.set_cons_succ]
              refine take_op (i := 9) (d := some 69) (v := ?_) rfl rfl (by kernel_rfl) (by kernel_rfl) (by kernel_rfl) (fun _ _ _ h => h) (Or.inl ⟨by rfl, ?_⟩) (by assumption) ?_
              rotate_left
              · (intro w' hSw; (try dsimp only at hSw); obtain ⟨hS1, q0⟩ := hSw; obtain ⟨c0, c1, c2, c3, c4, c5⟩ := pk_cells hS1; go_simp; try (with_reducible rfl))
              try simp only [Act.put, List.setIfInBounds_toArray, List.set_cons_zero, List.set_cons_succ]
              refine take_op (i := 10) (d := some 70) (v := ?_) rfl rfl (by kernel_rfl) (by kernel_rfl) (by kernel_rfl) (fun _ _ _ h => h) (Or.inl ⟨by rfl, ?_⟩) (by assumption) ?_
              rotate_left
              · (intro w' hSw; (try dsimp only at hSw); obtain ⟨hS1, q0⟩ := hSw; obtain ⟨c0, c1, c2, c3, c4, c5⟩ := pk_cells hS1; go_simp; try (with_reducible rfl))
              try simp only [Act.put, List.setIfInBounds_toArray, List.set_cons_zero, List.set_cons_succ]
              refine wpAnyH_ready (rs := [12]) (by kernel_rfl) (by simp) ?_
              refine AllReadyH.cons rfl (fun K hK => ?_) AllReadyH.nil
              rw [if_pos (by rfl)]
              refine wp_st_row 26 _ _ rfl ba rfl _ rfl HA.out (by kernel_rfl) rfl (by simp [Value.oneCell']) (fun w7 hp7 hg7 => ?_)
              try simp only [Act.put, List.setIfInBounds_toArray, List.set_cons_zero, List.set_cons_succ]
              have HD := Lib.hid (HD.out.grow hg7 (fun q hq => by have := HNE.out.1; simp at hq; subst hq; simp; omega) (fun b hb => by cases hb; exact HWB.out))
              have HEc := Lib.hid (ownE_kept HEc.out hg7 (by have := HNE.out.2; simp [Value.ownBlock]; omega))
              clear hp7 hg7
              refine hK.out _ _ ⟨HD.out.row (b := bt) (c := #[.int .i64 a0, .int .i64 2, .int .i64 a2, .int .i64 a3, .string h, .slice (some ⟨b, off, none⟩) len cap]) (t := 24) (by simp), (ent_cells HEc.out HMK.out).1⟩ (fun hHeld => ?_)
              clear hK K
              try simp only [Act.put, List.setIfInBounds_toArray, List.set_cons_zero, List.set_cons_succ]
              refine take_op (i := 13) (d := some 10) (v := ?_) rfl rfl (by kernel_rfl) (by kernel_rfl) (by kernel_rfl) (fun _ _ _ h => h) (Or.inl ⟨by rfl, ?_⟩) (by assumption) ?_
              rotate_left
              · (intro w' hSw; (try dsimp only at hSw); obtain ⟨hS1, q0⟩ := hSw; obtain ⟨c0, c1, c2, c3, c4, c5⟩ := pk_cells hS1; go_simp; try (with_reducible rfl))
              try simp only [Act.put, List.setIfInBounds_toArray, List.set_cons_zero, List.set_cons_succ]
              refine wpAnyH_done (by kernel_rfl) ?_ _
              go_wp2_with fail
              go_meet
              exact ⟨rfl, HD.out, HEc.out⟩
          case rest =>
            obtain ⟨rfl, HC⟩ := hcut
            have HF := Lib.hid HC.out.1
            have HE := Lib.hid HC.out.2
            clear HC HD0 HE0 FL1
            obtain ⟨c0, c1, c2, c3, c4, c5⟩ := pk_cells (HF.out.row (b := bt) (c := #[.int .i64 a0, .int .i64 2, .int .i64 a2, .int .i64 a3, .string h, .slice (some ⟨b, off, none⟩) len cap]) (t := 24) (by simp))
            unfold lookD atRes at FL2
            dsimp only at FL2
            go_wp2_with fail
            clear c0 c1 c2 c3 c4 c5
            refine (FL2.out _ (HS.out.below HF.out.bel rfl)).mono ?_
            rintro e w5 ⟨rfl, hb5⟩
            have HF5 := Lib.hid (HF.out.below hb5)
            have HE5 := Lib.hid (ownE_below HE.out hb5)
            clear hb5 HF HE FL2
            have hnt : (w5.alloc (.cells #[.int .i64 0, .int .i64 0, .bool false, .string ⟨#[]⟩, .string ⟨#[]⟩] 26)).heap[w5.heap.size]? = some (.cells #[.int .i64 0, .int .i64 0, .bool false, .string ⟨#[]⟩, .string ⟨#[]⟩] 26 (0, 0)) := heap_alloc_new w5 _
            go_upto_region 12 with (refine wpList_st_row rfl 26 _ _ rfl w5.heap.size rfl _ rfl hnt (by kernel_rfl) rfl (by simp [Value.oneCell']) (fun w6 hp6 hg6 => ?_); have HF6 := Lib.hid (HF5.out.below (fresh_below hg6)); have HE6 := Lib.hid (ownE_below HE5.out (fresh_below hg6)); clear hp6 hg6)
            clear hnt HF5 HE5
            obtain ⟨q0, q1, q2⟩ := ent_cells HE6.out HMK.out
            go_wp2_with fail
            clear q0 q1 q2
            go_roundw
            case rel => exact ⟨k + 1, by omega, by go_num, m + 1, congrArg (Value.int .i64) (by omega), ⟨fun _ => HLN.out, fun e => absurd rfl e, by omega⟩, HF6.out, HE6.out⟩
            case measure => simp [intOf]; omega
        · have HNX := Lib.hid (keysL_none hkv)
          go_wp2_with fail
          clear c0 c1 c2 c3 c4 c5 hc
          refine (FS.out _).mono ?_
          rintro e w3 ⟨rfl, hb3⟩
          have HF3 := Lib.hid (HF.out.below hb3)
          have HE3 := Lib.hid (ownE_below HE.out hb3)
          clear hb3 HF HE FS
          generalize stV (S k) = st at *
          have hb3 : (st != 3) = true := bne_iff_ne.2 hn3
          have hb2 : (st != 2) = true := bne_iff_ne.2 hn2
          go_wp2_with fail
          go_roundw
          case rel => exact ⟨k + 1, by omega, by go_num, m, rfl, ⟨fun _ => by rw [HNX.out]; exact HM2.out, fun e => absurd rfl e, hml⟩, HF3.out, HE3.out⟩
          case measure => simp [intOf]; omega
      · have hne : (a1 == 2) = false := beq_eq_false_iff_ne.2 ha1
        have HM2 : Hid (m = 0) := HM.out.2.1 ha1
        have hkl0 : K.length = 0 := by rw [HKK.out]; unfold keysOf; rw [if_neg ha1]; rfl
        obtain rfl : m = 0 := HM2.out
        rw [hkl0]
        go_wp2_with fail
        clear c0 c1 c2 c3 c4 c5
        refine (FA.out _).mono ?_
        rintro e w9 ⟨rfl, hb9⟩
        have H9 := Lib.hid (HF.out.below hb9)
        clear hb9 HF
        go_wp2_with fail
        go_ret
        exact ⟨rfl, H9.out.bel⟩
    · have hml2 : m = K.length := by
        by_cases ha1 : a1 = 2
        · rw [HM.out.1 ha1, HKK.out]
          unfold keysOf
          rw [if_pos ha1, show k = len by omega]
        · rw [HM.out.2.1 ha1, HKK.out]
          unfold keysOf
          rw [if_neg ha1]
          rfl
      subst hml2
      go_wp2_with fail
      clear c0 c1 c2 c3 c4 c5
      refine (FA.out _).mono ?_
      rintro e w9 ⟨rfl, hb9⟩
      have H9 := Lib.hid (HF.out.below hb9)
      clear hb9 HF
      go_wp2_with fail
      go_ret
      exact ⟨rfl, H9.out.bel⟩
end Go.Proofs.Ytkjnjccjkjachaa
