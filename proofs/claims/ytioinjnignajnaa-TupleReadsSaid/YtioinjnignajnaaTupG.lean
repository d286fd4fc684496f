/- The walks of TupleBack and TupleThere. -/
import Derived.Test.YtioinjnignajnaaTupF
namespace Go.Proofs.Ytioinjnignajnaa
open Go.RowKit
set_option linter.unusedSimpArgs false

theorem txl_len1 {s : ByteArray} (h : s.size < 128) : (txl s).length = 1 + s.size := by
  have h2 : s.data.toList.length = s.size := Array.length_toList
  unfold txl
  rw [sev_low h, List.length_append, h2]
  rfl
theorem encL_len {x y : Int} {f : Bool} {k v : ByteArray} (h : encok x y k v = true) : (encL x y f k v).length = 7 + k.size + v.size := by
  obtain ⟨_, _, _, _, _, h1, h2⟩ := encok_yes h
  unfold encL
  simp only [List.length_cons, List.length_append, bigL_len, txl_len1 (s := k) (by omega), txl_len1 (s := v) (by omega)]
  omega
theorem key_enc {x y : Int} {f : Bool} {k v : ByteArray} (h : encok x y k v = true) : keyV ⟨(encL x y f k v).toArray⟩ = some k := by
  unfold keyV; rw [dec_enc x y f k v h]
theorem key_dead {k : ByteArray} (h : kok k = true) : keyV ⟨(deadL k).toArray⟩ = some k := by
  unfold keyV; rw [dec_dead]; exact bur_dead k h
theorem deadL_len {k : ByteArray} (h : kok k = true) : (deadL k).length = 2 + k.size := by
  unfold deadL
  have := (kok_yes h).2
  rw [List.length_cons, txl_len1 (by omega)]
  omega

set_option maxRecDepth 100000 in
set_option maxHeartbeats 4000000 in
theorem tupleBack_w (x y : Int) (f : Bool) (k v : ByteArray) (w : World) :
    Calls Try.prog 5 #[.agg #[.int .i64 x, .int .i64 y, .bool f, .string k, .string v]] w fun e w' => e = .returned (.bool true) ∧ Below w.heap.size w w' := by
  obtain ⟨wb, hwb⟩ : ∃ wb, wb = w.alloc (.cells #[.int .i64 x, .int .i64 y, .bool f, .string k, .string v] 23) := ⟨_, rfl⟩
  obtain ⟨bt, hbt⟩ : ∃ bt, bt = w.heap.size := ⟨_, rfl⟩
  have H0 : Hid (Bx w wb bt x y f k v) := by rw [hwb, hbt]; exact ⟨TB.new w x y f k v, (Below.refl _ w).alloc (Nat.le_refl _) _⟩
  have HWB := Lib.hid hwb
  have HBT := Lib.hid hbt
  clear hwb hbt
  -- what the tail needs of a version that is laid
  have HCE : Hid (∀ S : ByteArray, S = ⟨(encL x y f k v).toArray⟩ → encok x y k v = true → (∀ w, Calls Try.prog 17 #[.string S] w fun e w' => e = .returned (.tuple #[.agg #[.int .i64 x, .int .i64 y, .bool f, .string k, .string v], .int .i64 0]) ∧ Below w.heap.size w w') ∧
      (∀ w, Calls Try.prog 15 #[.string S] w fun e w' => e = .returned (.tuple #[.string k, .bool true]) ∧ Below w.heap.size w w') ∧
      (∀ w, Calls Try.prog 16 #[.string S] w fun e w' => e = .returned (.int .u8 3) ∧ Below w.heap.size w w') ∧ S.size ≤ 95) := by
    rintro S rfl h
    have hl := encL_len (f := f) h
    obtain ⟨_, _, _, _, _, h1, h2⟩ := encok_yes h
    have hs : (⟨(encL x y f k v).toArray⟩ : ByteArray).size ≤ 95 := by rw [mk_size, hl]; omega
    refine ⟨fun w => ?_, fun w => ?_, fun w => ?_, hs⟩
    · have c := dec_c ⟨(encL x y f k v).toArray⟩ w (by omega)
      rw [dec_enc x y f k v h] at c
      exact c
    · have c := key_c ⟨(encL x y f k v).toArray⟩ w (by omega)
      rw [key_enc h] at c
      exact c
    · have c := state_c ⟨(encL x y f k v).toArray⟩ w (by omega)
      rw [st_enc h] at c
      exact c
  have HCD : Hid (∀ S : ByteArray, S = ⟨(deadL k).toArray⟩ → kok k = true → (∀ w, Calls Try.prog 15 #[.string S] w fun e w' => e = .returned (.tuple #[.string k, .bool true]) ∧ Below w.heap.size w w') ∧
      (∀ w, Calls Try.prog 16 #[.string S] w fun e w' => e = .returned (.int .u8 2) ∧ Below w.heap.size w w')) := by
    rintro S rfl h
    have hl := deadL_len h
    have h1 := (kok_yes h).2
    have hs : (⟨(deadL k).toArray⟩ : ByteArray).size ≤ 95 := by rw [mk_size, hl]; omega
    refine ⟨fun w => ?_, fun w => ?_⟩
    · have c := key_c ⟨(deadL k).toArray⟩ w (by omega)
      rw [key_dead h] at c
      exact c
    · have c := state_c ⟨(deadL k).toArray⟩ w (by omega)
      rw [st_dead h] at c
      exact c
  -- the tail, behind the dead slot
  obtain ⟨S, E, CE, _, hE⟩ := enc_both x y f k v
  obtain ⟨D, G, CD, _, hG⟩ := dead_both k
  rcases hG with ⟨rfl, hD, hkk⟩ | ⟨rfl, rfl, hkk⟩
  · obtain ⟨DK, DS⟩ := HCD.out D hD hkk
    have HDK := Lib.hid DK
    have HDS := Lib.hid DS
    clear DK DS hD hkk
    rcases hE with ⟨rfl, hS, hek⟩ | ⟨rfl, rfl, hek⟩
    · obtain ⟨EC, EK, ES, h95⟩ := HCE.out S hS hek
      have HEC := Lib.hid EC
      have HEK := Lib.hid EK
      have HES := Lib.hid ES
      clear EC EK ES hS hek HCE HCD
      go_enter Try.func5, Try.ntmps5
      go_wp2_with fail
      rw [← HWB.out, ← HBT.out]
      clear HWB HBT
      refine (CE.out _).mono ?_
      rintro e w1 ⟨rfl, hb⟩
      have H1 := Lib.hid (H0.out.below hb)
      clear hb H0
      have c3 := H1.out.tb.cell.2.2.2.1
      go_wp2_with fail
      refine (CD.out _).mono ?_
      rintro e w2 ⟨rfl, hb⟩
      have H2 := Lib.hid (H1.out.below hb)
      clear hb c3 H1
      go_wp2_with fail
      refine (HDK.out _).mono ?_
      rintro e w3 ⟨rfl, hb⟩
      have H3 := Lib.hid (H2.out.below hb)
      clear hb H2
      have c3 := H3.out.tb.cell.2.2.2.1
      go_wp2_with fail
      refine (HDS.out _).mono ?_
      rintro e w4 ⟨rfl, hb⟩
      have H4 := Lib.hid (H3.out.below hb)
      clear hb c3 H3
      go_wp2_with fail
      refine (HEC.out _).mono ?_
      rintro e w5 ⟨rfl, hb⟩
      have H5 := Lib.hid (H4.out.below hb)
      clear hb H4
      have H6 : Hid (Bx w (w5.alloc (.cells #[.int .i64 x, .int .i64 y, .bool f, .string k, .string v] 23)) bt x y f k v ∧ TB (w5.alloc (.cells #[.int .i64 x, .int .i64 y, .bool f, .string k, .string v] 23)) w5.heap.size x y f k v) := ⟨H5.out.below ((Below.refl _ w5).alloc (Nat.le_refl _) _), TB.new w5 x y f k v⟩
      clear H5
      go_wp2_with fail
      generalize w5.alloc (.cells #[.int .i64 x, .int .i64 y, .bool f, .string k, .string v] 23) = w6 at H6 ⊢
      obtain ⟨bu, hbu⟩ : ∃ bu, bu = w5.heap.size := ⟨_, rfl⟩
      rw [← hbu] at H6 ⊢
      clear hbu
      refine (HEK.out _).mono ?_
      rintro e w7 ⟨rfl, hb⟩
      have H7 : Hid (Bx w w7 bt x y f k v ∧ TB w7 bu x y f k v) := ⟨H6.out.1.below hb, H6.out.2.below hb⟩
      clear hb H6
      obtain ⟨c0, c1, c2, c3, c4⟩ := H7.out.1.tb.cell
      obtain ⟨d0, d1, d2, d3, d4⟩ := H7.out.2.cell
      go_wp2_with fail
      refine (HES.out _).mono ?_
      rintro e w8 ⟨rfl, hb⟩
      have H8 := Lib.hid (H7.out.1.below hb)
      clear hb H7 c0 c1 c2 c3 c4 d0 d1 d2 d3 d4
      go_wp2_with fail
      refine (awake_c _).mono ?_
      rintro e w9 ⟨rfl, hb⟩
      have H9 := Lib.hid (H8.out.below hb)
      clear hb
      go_wp2_with fail
      go_ret
      exact ⟨rfl, H9.out.bel⟩
    · clear hek HCE HCD
      go_enter Try.func5, Try.ntmps5
      go_wp2_with fail
      rw [← HWB.out, ← HBT.out]
      clear HWB HBT
      refine (CE.out _).mono ?_
      rintro e w1 ⟨rfl, hb⟩
      have H1 := Lib.hid (H0.out.below hb)
      clear hb H0
      have c3 := H1.out.tb.cell.2.2.2.1
      go_wp2_with fail
      refine (CD.out _).mono ?_
      rintro e w2 ⟨rfl, hb⟩
      have H2 := Lib.hid (H1.out.below hb)
      clear hb c3 H1
      go_wp2_with fail
      refine (HDK.out _).mono ?_
      rintro e w3 ⟨rfl, hb⟩
      have H3 := Lib.hid (H2.out.below hb)
      clear hb H2
      have c3 := H3.out.tb.cell.2.2.2.1
      go_wp2_with fail
      refine (HDS.out _).mono ?_
      rintro e w4 ⟨rfl, hb⟩
      have H4 := Lib.hid (H3.out.below hb)
      clear hb c3 H3
      go_wp2_with fail
      refine (awake_c _).mono ?_
      rintro e w9 ⟨rfl, hb⟩
      have H9 := Lib.hid (H4.out.below hb)
      clear hb
      go_wp2_with fail
      go_ret
      exact ⟨rfl, H9.out.bel⟩
  · clear hkk
    rcases hE with ⟨rfl, hS, hek⟩ | ⟨rfl, rfl, hek⟩
    · obtain ⟨EC, EK, ES, h95⟩ := HCE.out S hS hek
      have HEC := Lib.hid EC
      have HEK := Lib.hid EK
      have HES := Lib.hid ES
      clear EC EK ES hS hek HCE HCD
      go_enter Try.func5, Try.ntmps5
      go_wp2_with fail
      rw [← HWB.out, ← HBT.out]
      clear HWB HBT
      refine (CE.out _).mono ?_
      rintro e w1 ⟨rfl, hb⟩
      have H1 := Lib.hid (H0.out.below hb)
      clear hb H0
      have c3 := H1.out.tb.cell.2.2.2.1
      go_wp2_with fail
      refine (CD.out _).mono ?_
      rintro e w2 ⟨rfl, hb⟩
      have H2 := Lib.hid (H1.out.below hb)
      clear hb c3 H1
      have H4 := Lib.hid H2.out
      clear H2
      go_wp2_with fail
      refine (HEC.out _).mono ?_
      rintro e w5 ⟨rfl, hb⟩
      have H5 := Lib.hid (H4.out.below hb)
      clear hb H4
      have H6 : Hid (Bx w (w5.alloc (.cells #[.int .i64 x, .int .i64 y, .bool f, .string k, .string v] 23)) bt x y f k v ∧ TB (w5.alloc (.cells #[.int .i64 x, .int .i64 y, .bool f, .string k, .string v] 23)) w5.heap.size x y f k v) := ⟨H5.out.below ((Below.refl _ w5).alloc (Nat.le_refl _) _), TB.new w5 x y f k v⟩
      clear H5
      go_wp2_with fail
      generalize w5.alloc (.cells #[.int .i64 x, .int .i64 y, .bool f, .string k, .string v] 23) = w6 at H6 ⊢
      obtain ⟨bu, hbu⟩ : ∃ bu, bu = w5.heap.size := ⟨_, rfl⟩
      rw [← hbu] at H6 ⊢
      clear hbu
      refine (HEK.out _).mono ?_
      rintro e w7 ⟨rfl, hb⟩
      have H7 : Hid (Bx w w7 bt x y f k v ∧ TB w7 bu x y f k v) := ⟨H6.out.1.below hb, H6.out.2.below hb⟩
      clear hb H6
      obtain ⟨c0, c1, c2, c3, c4⟩ := H7.out.1.tb.cell
      obtain ⟨d0, d1, d2, d3, d4⟩ := H7.out.2.cell
      go_wp2_with fail
      refine (HES.out _).mono ?_
      rintro e w8 ⟨rfl, hb⟩
      have H8 := Lib.hid (H7.out.1.below hb)
      clear hb H7 c0 c1 c2 c3 c4 d0 d1 d2 d3 d4
      go_wp2_with fail
      refine (awake_c _).mono ?_
      rintro e w9 ⟨rfl, hb⟩
      have H9 := Lib.hid (H8.out.below hb)
      clear hb
      go_wp2_with fail
      go_ret
      exact ⟨rfl, H9.out.bel⟩
    · clear hek HCE HCD
      go_enter Try.func5, Try.ntmps5
      go_wp2_with fail
      rw [← HWB.out, ← HBT.out]
      clear HWB HBT
      refine (CE.out _).mono ?_
      rintro e w1 ⟨rfl, hb⟩
      have H1 := Lib.hid (H0.out.below hb)
      clear hb H0
      have c3 := H1.out.tb.cell.2.2.2.1
      go_wp2_with fail
      refine (CD.out _).mono ?_
      rintro e w2 ⟨rfl, hb⟩
      have H2 := Lib.hid (H1.out.below hb)
      clear hb c3 H1
      have H4 := Lib.hid H2.out
      clear H2
      go_wp2_with fail
      refine (awake_c _).mono ?_
      rintro e w9 ⟨rfl, hb⟩
      have H9 := Lib.hid (H4.out.below hb)
      clear hb
      go_wp2_with fail
      go_ret
      exact ⟨rfl, H9.out.bel⟩

set_option maxRecDepth 100000 in
set_option maxHeartbeats 4000000 in
theorem tupleThere_w (s : ByteArray) (w : World) (hs : s.size ≤ 9223372036854775807) :
    Calls Try.prog 6 #[.string s] w fun e w' => e = .returned (.bool true) ∧ Below w.heap.size w w' := by
  have CDec := Lib.hid (fun w => dec_c s w hs)
  have CKey := Lib.hid (fun w => key_c s w hs)
  have CSt := Lib.hid (fun w => state_c s w hs)
  cases hd : decV s with
  | some t =>
    obtain ⟨x, y, f, k, v⟩ := t
    obtain ⟨h1, h2⟩ := enc_dec s x y f k v hd
    have hk : keyV s = some k := by unfold keyV; rw [hd]
    have hz : s.size ≠ 0 := fun h0 => by rw [dec_empty h0] at hd; cases hd
    have hst : stV s = 3 := by unfold stV; rw [if_neg hz, hd]; rfl
    have hse : (⟨(encL x y f k v).toArray⟩ : ByteArray) = s := by rw [← h1]
    have CE := Lib.hid (fun w => enc_yes x y f k v w h2)
    rw [hse] at CE
    rw [hd] at CDec
    rw [hk] at CKey
    rw [hst] at CSt
    simp only [decRes] at CDec
    simp only [burRes] at CKey
    clear hd h1 h2 hk hz hst hse hs
    go_enter Try.func6, Try.ntmps6
    go_wp2_with fail
    refine (CDec.out _).mono ?_
    rintro e w1 ⟨rfl, hb⟩
    have H1 : Hid (Bx w (w1.alloc (.cells #[.int .i64 x, .int .i64 y, .bool f, .string k, .string v] 23)) w1.heap.size x y f k v) := ⟨TB.new w1 x y f k v, hb.trans ((Below.refl _ w1).alloc hb.size _)⟩
    clear hb
    go_wp2_with fail
    generalize w1.alloc (.cells #[.int .i64 x, .int .i64 y, .bool f, .string k, .string v] 23) = w2 at H1 ⊢
    obtain ⟨bt, hbt⟩ : ∃ bt, bt = w1.heap.size := ⟨_, rfl⟩
    rw [← hbt] at H1 ⊢
    clear hbt
    refine (CKey.out _).mono ?_
    rintro e w3 ⟨rfl, hb⟩
    have H3 := Lib.hid (H1.out.below hb)
    clear hb H1
    go_wp2_with fail
    refine (CSt.out _).mono ?_
    rintro e w4 ⟨rfl, hb⟩
    have H4 := Lib.hid (H3.out.below hb)
    clear hb H3
    obtain ⟨c0, c1, c2, c3, c4⟩ := H4.out.tb.cell
    go_wp2_with fail
    refine (CE.out _).mono ?_
    rintro e w5 ⟨rfl, hb⟩
    have H5 := Lib.hid (H4.out.below hb)
    clear hb H4 c0 c1 c2 c3 c4
    have c3 := H5.out.tb.cell.2.2.2.1
    go_wp2_with fail
    refine (awake_c _).mono ?_
    rintro e w6 ⟨rfl, hb⟩
    have H6 := Lib.hid (H5.out.below hb)
    clear hb
    go_wp2_with fail
    go_ret
    exact ⟨rfl, H6.out.bel⟩
  | none =>
    rw [hd] at CDec
    simp only [decRes] at CDec
    cases hb : burV s with
    | some k =>
      obtain ⟨h1, h2⟩ := dead_bur s k hb
      have hk : keyV s = some k := by unfold keyV; rw [hd]; exact hb
      have hz : s.size ≠ 0 := fun h0 => by rw [bur_empty h0] at hb; cases hb
      have hst : stV s = 2 := by unfold stV; rw [if_neg hz, hd, hb]; rfl
      have hse : (⟨(deadL k).toArray⟩ : ByteArray) = s := by rw [← h1]
      have CE := Lib.hid (fun w => dead_yes k w h2)
      rw [hse] at CE
      rw [hk] at CKey
      rw [hst] at CSt
      simp only [burRes] at CKey
      clear hd hb h1 h2 hk hz hst hse hs
      go_enter Try.func6, Try.ntmps6
      go_wp2_with fail
      refine (CDec.out _).mono ?_
      rintro e w1 ⟨rfl, hb⟩
      have H1 := Lib.hid (hb.trans ((Below.refl _ w1).alloc hb.size (.cells #[.int .i64 0, .int .i64 0, .bool false, .string ⟨#[]⟩, .string ⟨#[]⟩] 23)))
      clear hb
      go_wp2_with fail
      refine (CKey.out _).mono ?_
      rintro e w3 ⟨rfl, hb⟩
      have H3 := Lib.hid (H1.out.trans (hb.mono H1.out.size))
      clear hb H1
      go_wp2_with fail
      refine (CSt.out _).mono ?_
      rintro e w4 ⟨rfl, hb⟩
      have H4 := Lib.hid (H3.out.trans (hb.mono H3.out.size))
      clear hb H3
      go_wp2_with fail
      refine (CE.out _).mono ?_
      rintro e w5 ⟨rfl, hb⟩
      have H5 := Lib.hid (H4.out.trans (hb.mono H4.out.size))
      clear hb H4
      go_wp2_with fail
      refine (awake_c _).mono ?_
      rintro e w6 ⟨rfl, hb⟩
      have H6 := Lib.hid (H5.out.trans (hb.mono H5.out.size))
      clear hb
      go_wp2_with fail
      go_ret
      exact ⟨rfl, H6.out⟩
    | none =>
      have hk : keyV s = none := by unfold keyV; rw [hd]; exact hb
      rw [hk] at CKey
      simp only [burRes] at CKey
      have hke := empty_iff s
      by_cases hz : s.size = 0
      · have hst : stV s = 1 := by unfold stV; rw [if_pos hz]
        rw [hst] at CSt
        rw [decide_eq_true hz] at hke
        clear hd hb hk hst hz hs
        go_enter Try.func6, Try.ntmps6
        go_wp2_with fail
        refine (CDec.out _).mono ?_
        rintro e w1 ⟨rfl, hb⟩
        have H1 := Lib.hid (hb.trans ((Below.refl _ w1).alloc hb.size (.cells #[.int .i64 0, .int .i64 0, .bool false, .string ⟨#[]⟩, .string ⟨#[]⟩] 23)))
        clear hb
        go_wp2_with fail
        refine (CKey.out _).mono ?_
        rintro e w3 ⟨rfl, hb⟩
        have H3 := Lib.hid (H1.out.trans (hb.mono H1.out.size))
        clear hb H1
        go_wp2_with fail
        refine (CSt.out _).mono ?_
        rintro e w4 ⟨rfl, hb⟩
        have H4 := Lib.hid (H3.out.trans (hb.mono H3.out.size))
        clear hb H3
        go_wp2_with fail
        refine (free_c _).mono ?_
        rintro e w5 ⟨rfl, rfl⟩
        go_wp2_with fail
        refine (awake_c _).mono ?_
        rintro e w6 ⟨rfl, hb⟩
        have H6 := Lib.hid (H4.out.trans (hb.mono H4.out.size))
        clear hb
        go_wp2_with fail
        go_ret
        exact ⟨rfl, H6.out⟩
      · have hst : stV s = 0 := by unfold stV; rw [if_neg hz, hd, hb]; rfl
        rw [hst] at CSt
        rw [decide_eq_false hz] at hke
        clear hd hb hk hst hz hs
        go_enter Try.func6, Try.ntmps6
        go_wp2_with fail
        refine (CDec.out _).mono ?_
        rintro e w1 ⟨rfl, hb⟩
        have H1 := Lib.hid (hb.trans ((Below.refl _ w1).alloc hb.size (.cells #[.int .i64 0, .int .i64 0, .bool false, .string ⟨#[]⟩, .string ⟨#[]⟩] 23)))
        clear hb
        go_wp2_with fail
        refine (CKey.out _).mono ?_
        rintro e w3 ⟨rfl, hb⟩
        have H3 := Lib.hid (H1.out.trans (hb.mono H1.out.size))
        clear hb H1
        go_wp2_with fail
        refine (CSt.out _).mono ?_
        rintro e w4 ⟨rfl, hb⟩
        have H4 := Lib.hid (H3.out.trans (hb.mono H3.out.size))
        clear hb H3
        go_wp2_with fail
        refine (awake_c _).mono ?_
        rintro e w6 ⟨rfl, hb⟩
        have H6 := Lib.hid (H4.out.trans (hb.mono H4.out.size))
        clear hb
        go_wp2_with fail
        go_ret
        exact ⟨rfl, H6.out⟩
end Go.Proofs.Ytioinjnignajnaa
