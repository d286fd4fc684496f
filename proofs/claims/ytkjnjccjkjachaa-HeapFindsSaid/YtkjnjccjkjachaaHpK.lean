/- What a record of an Insert does to a page. -/
import Derived.Test.YtkjnjccjkjachaaHpJ
namespace Go.Proofs.Ytkjnjccjkjachaa
open Go.RowKit
set_option linter.unusedSimpArgs false
set_option linter.unusedVariables false
set_option maxRecDepth 100000

/-- What a record does to a page: the page, and whether it may be encoded. -/
def DOut (w : World) (a0 a1 a2 a3 : Int) (h : ByteArray) (L : Nat) (T : Nat → ByteArray) (e : Ending) (w' : World) : Prop :=
  ∃ (ao2 : Option Addr) (cap2 : Nat), e = .returned (.tuple #[.agg #[.int .i64 a0, .int .i64 a1, .int .i64 a2, .int .i64 a3, .string h, .slice ao2 L cap2], .bool (encd a0 a1 a2 a3 h T L)]) ∧ StrsIn w' ao2 L T ∧ (∀ b off, ao2 = some ⟨b, off, none⟩ → w.heap.size ≤ b) ∧ Below w.heap.size w w'
theorem rec_cell {w : World} {b : Nat} {kd xd pg sl od nw : Int} {da : ByteArray} (h : w.heap[b]? = some (.cells #[.int .i64 0, .int .i64 0, .int .i64 0, .int .u8 kd, .int .i64 xd, .int .i64 pg, .int .i64 sl, .int .i64 od, .int .i64 nw, .int .i64 0, .string da, .slice none 0 0, .slice none 0 0, .slice none 0 0, .slice none 0 0, .slice none 0 0] 34 (0, 0))) :
    w.cell? ⟨b, 3, none⟩ = some (.int .u8 kd) ∧ w.cell? ⟨b, 4, none⟩ = some (.int .i64 xd) ∧ w.cell? ⟨b, 6, none⟩ = some (.int .i64 sl) ∧ w.cell? ⟨b, 7, none⟩ = some (.int .i64 od) ∧ w.cell? ⟨b, 8, none⟩ = some (.int .i64 nw) ∧ w.cell? ⟨b, 10, none⟩ = some (.string da) := by
  refine ⟨?_, ?_, ?_, ?_, ?_, ?_⟩ <;> (simp only [World.cell?, h]; rfl)

theorem own_kept {w w' : World} {B : Nat} {v : Value} {n : Nat} {xs : List Value} (h : w.ownsRow B 9 1 v n xs) {b : Nat} (hg : w.grownBy w' (some b)) (hb : b < B) : w'.ownsRow B 9 1 v n xs :=
  h.kept hg (by
    by_cases hh : v.ownBlock = some b
    · have := (h.lt b hh).1; omega
    · exact .inr hh)
theorem own_shape {w : World} {B : Nat} {v : Value} {n : Nat} {xs : List Value} (h : w.ownsRow B 9 1 v n xs) (hv : v ≠ .slice none 0 0) : ∃ g cp, v = .slice (some ⟨g, 0, none⟩) n cp ∧ B ≤ g ∧ n ≤ cp ∧ cp ≤ 9223372036854775807 ∧ ∀ j, w.frozen? ⟨g, j, none⟩ = false := by
  obtain ⟨_, ⟨h1, _⟩ | ⟨g, cp, cur, rfl, h2, h3, h4, h5, _⟩⟩ := h
  · exact absurd h1 hv
  · exact ⟨g, cp, rfl, h2, h4, by unfold maxLen at h5; omega, fun j => frozen_of_row w g j _ _ h3⟩
theorem own_ne {w : World} {B : Nat} {v : Value} {n : Nat} {xs : List Value} (h : w.ownsRow B 9 1 v n xs) (hn : 0 < n) : v ≠ .slice none 0 0 := by
  obtain ⟨_, ⟨_, h2⟩ | ⟨g, cp, cur, rfl, _⟩⟩ := h
  · omega
  · simp
theorem strs_updS_twice (S : Nat → ByteArray) (n : Nat) (x y : ByteArray) (L : Nat) : strs (updS (updS S n x) n y) L = strs (updS S n y) L := by
  unfold strs
  refine List.map_congr_left fun i _ => ?_
  unfold updS
  split <;> rfl
theorem Fr.grow {W wx w' : World} {l : List (Nat × Array Value × TypeId)} (H : Fr W wx l) {r : Option Nat} (hg : wx.grownBy w' r) (hne : ∀ q ∈ l, some q.1 ≠ r) (hr : ∀ b, r = some b → W.heap.size ≤ b) : Fr W w' l :=
  ⟨fun q hq => ⟨(hg.block q.1 (row_lt (H.rows q hq).1) (hne q hq)).trans (H.rows q hq).1, (H.rows q hq).2⟩, H.bel.grown hg H.bel.size hr⟩
theorem Fr.set {W wx : World} {l m : List (Nat × Array Value × TypeId)} (H : Fr W wx l) {b j : Nat} {c : Array Value} {t : TypeId} (u : Value) (hb : (b, c, t) ∈ l) (hm : ∀ q ∈ m, q ∈ l ∧ q.1 ≠ b) : Fr W (wx.setCell ⟨b, j, none⟩ u) ((b, c.setIfInBounds j u, t) :: m) :=
  (H.sub (fun q hq => (hm q hq).1)).own (grown_set wx b j u) (heap_setCell_same wx b j _ _ _ (H.rows _ hb).1) (fun q hq => (hm q hq).2) (H.rows _ hb).2

set_option maxHeartbeats 8000000 in
theorem does_c (a0 a1 a2 a3 : Int) (h : ByteArray) (ao : Option Addr) (len cap : Nat) (S : Nat → ByteArray) (n : Nat) (xd pg : Int) (s : ByteArray) (w : World) (ha0 : a0 ≤ 9223372036854775807) (hlen : len ≤ 8796093022000) (hM : Small h S len) (hsz : s.size ≤ 140737488355328) (hn : isFst S len n) (hs : StrsIn w ao len S) :
    Calls Try.prog 10 #[.agg #[.int .i64 a0, .int .i64 a1, .int .i64 a2, .int .i64 a3, .string h, .slice ao len cap], .agg #[.int .i64 0, .int .i64 0, .int .i64 0, .int .u8 1, .int .i64 xd, .int .i64 pg, .int .i64 n, .int .i64 0, .int .i64 0, .int .i64 0, .string s, .slice none 0 0, .slice none 0 0, .slice none 0 0, .slice none 0 0, .slice none 0 0]] w fun e w' => DOut w a0 a1 a2 a3 h (max len (n + 1)) (updS S n s) e w' := by
  have HS := Lib.hid hs
  obtain ⟨w0, bt, bu, br, hwc, hbt, hbu, hbr, h1, ho1, ho2⟩ := Fr.new3 w #[.int .i64 a0, .int .i64 a1, .int .i64 a2, .int .i64 a3, .string h, .slice ao len cap] #[.int .i64 0, .int .i64 0, .int .i64 0, .int .u8 1, .int .i64 xd, .int .i64 pg, .int .i64 n, .int .i64 0, .int .i64 0, .int .i64 0, .string s, .slice none 0 0, .slice none 0 0, .slice none 0 0, .slice none 0 0, .slice none 0 0] #[.int .i64 0, .int .i64 0, .int .i64 0, .int .i64 0, .string ⟨#[]⟩, .slice none 0 0] 24 34 24
  have H1 := Lib.hid h1
  have HWC := Lib.hid hwc
  have HBT := Lib.hid hbt
  have HBU := Lib.hid hbu
  have HBR := Lib.hid hbr
  have HO := Lib.hid (And.intro ho1 ho2)
  have HN := Lib.hid hn
  have hM2 : Small h (updS S n s) (max len (n + 1)) := ⟨hM.hh, fun j hj => by
    unfold updS; split
    · exact hsz
    · exact hM.it j (by have := hn.1; omega)⟩
  obtain ⟨L, hL⟩ : ∃ L, L = max len (n + 1) := ⟨_, rfl⟩
  obtain ⟨T, hT⟩ : ∃ T, T = updS S n s := ⟨_, rfl⟩
  rw [← hL, ← hT] at hM2 ⊢
  have HL := Lib.hid hL
  have HT := Lib.hid hT
  have HM := Lib.hid hM
  have HM2 := Lib.hid hM2
  have HLB : Hid (br < w0.heap.size) := row_lt (h1.row (b := br) (c := #[.int .i64 0, .int .i64 0, .int .i64 0, .int .i64 0, .string ⟨#[]⟩, .slice none 0 0]) (t := 24) (by simp))
  clear hwc hbt hbu hbr h1 hs ho1 ho2 hn hM hM2 hL hT
  go_enter Try.func10, Try.ntmps10
  have c := pk_cells (H1.out.row (b := bt) (c := #[.int .i64 a0, .int .i64 a1, .int .i64 a2, .int .i64 a3, .string h, .slice ao len cap]) (t := 24) (by simp))
  rw [HWC.out, HBT.out] at c
  obtain ⟨c0, c1, c2, c3, c4, c5⟩ := c
  go_upto_region 1 with (fail)
  rw [← HWC.out, ← HBR.out, ← HBU.out, ← HBT.out]
  rw [← HWC.out, ← HBT.out] at c0 c1 c2 c3 c4 c5
  clear HWC HBT HBR HBU
  go_cut [6] (fun v wx => ∃ g cp, v = .slice (some ⟨g, 0, none⟩) len cp ∧ Hid (len ≤ cp ∧ cp ≤ 9223372036854775807 ∧ w0.heap.size ≤ g ∧ wx.ownsRow w0.heap.size 9 1 (.slice (some ⟨g, 0, none⟩) len cp) len (strs S len) ∧ Fr w wx [(br, #[.int .i64 0, .int .i64 0, .int .i64 0, .int .i64 0, .string ⟨#[]⟩, .slice none 0 0], 24), (bu, #[.int .i64 0, .int .i64 0, .int .i64 0, .int .u8 1, .int .i64 xd, .int .i64 pg, .int .i64 n, .int .i64 0, .int .i64 0, .int .i64 0, .string s, .slice none 0 0, .slice none 0 0, .slice none 0 0, .slice none 0 0, .slice none 0 0], 34), (bt, #[.int .i64 a0, .int .i64 a1, .int .i64 a2, .int .i64 a3, .string h, .slice ao len cap], 24)]))
  case first =>
    have ha : Below w0.heap.size w0 (w0.alloc (.cells #[] 9)) := (Below.refl _ _).alloc (Nat.le_refl _) _
    have e5 := bel_at ha c5
    have hmade : (w0.alloc (.cells #[] 9)).ownsRow w0.heap.size 9 1 (.slice (some ⟨w0.heap.size, 0, none⟩) 0 0) 0 [] := World.ownsRow_made w0 #[] 0 (Nat.le_refl _) (Nat.zero_le _) rfl
    have HMD := Lib.hid hmade
    have HA := Lib.hid (H1.out.below ha)
    have HSA := Lib.hid (HS.out.below (HA.out.bel) rfl)
    have HSZ := Lib.hid ha.size
    clear ha hmade
    cases ao with
    | none =>
      obtain rfl : len = 0 := by
        rcases Nat.eq_zero_or_pos len with h | h
        · exact h
        · obtain ⟨_, _, e, _⟩ := HS.out 0 h
          cases e
      go_wp2_with fail
      go_meet
      exact ⟨_, _, rfl, Nat.le_refl _, by omega, Nat.le_refl _, HMD.out, HA.out⟩
    | some a =>
      obtain ⟨i0, hi, hz0, hz1, hz2⟩ := info_parts info_str
      go_wp2_with (at_builtin; refine wpList_append_own _ rfl _ _ 22 rfl w0.heap.size 9 i0 (.string ⟨#[]⟩) 1 16 Try.underlying22 hi hz0 hz1 hz2 rfl (by decide) _ _ _ rfl HMD.out a len cap (strs S len) rfl (by rw [strs_len, Nat.mul_one]) (fun j u hj => ?_) (strs_one S len) (by unfold maxLen; omega) (by omega) HSZ.out ?_)
      · have hj2 : j < len := by have := (List.getElem?_eq_some_iff.1 hj).1; rw [strs_len] at this; exact this
        obtain ⟨b, off, e, hc, _⟩ := HSA.out j hj2
        cases e
        rw [strs_at S hj2] at hj
        cases hj
        rw [Addr.add_lit]
        exact hc
      intro v w1 hown hgrow hnil
      have hown2 : w1.ownsRow w0.heap.size 9 1 v len (strs S len) := by simpa using hown
      obtain ⟨g, cp, rfl, q1, q2, q3, _⟩ := own_shape hown2 hnil
      have HQ := Lib.hid (And.intro q2 (And.intro q3 (And.intro q1 hown2)))
      have HF1 := Lib.hid (HA.out.grow hgrow (fun q hq => by have := row_lt (H1.out.rows q hq).1; simp [Value.ownBlock]; omega) (fun b hb => by have := H1.out.bel.size; simp [Value.ownBlock] at hb; omega))
      clear hown hgrow hnil hown2 q1 q2 q3 HMD HA HSA HSZ e5
      go_wp2_with fail
      go_meet
      exact ⟨_, _, rfl, HQ.out.1, HQ.out.2.1, HQ.out.2.2.1, HQ.out.2.2.2, HF1.out⟩
  case rest =>
    obtain ⟨g, cp, rfl, HQ⟩ := hcut
    have HV := Lib.hid HQ.out.2.2.2.1
    have HF := Lib.hid HQ.out.2.2.2.2
    have HG := Lib.hid HQ.out.2.2.1
    have hlc := HQ.out.1
    have hcp := HQ.out.2.1
    have hnl := HN.out.1
    clear HQ c0 c1 c2 c3 c4 c5 H1
    obtain ⟨d3, d4, d6, d7, d8, d10⟩ := rec_cell (HF.out.row (b := bu) (c := #[.int .i64 0, .int .i64 0, .int .i64 0, .int .u8 1, .int .i64 xd, .int .i64 pg, .int .i64 n, .int .i64 0, .int .i64 0, .int .i64 0, .string s, .slice none 0 0, .slice none 0 0, .slice none 0 0, .slice none 0 0, .slice none 0 0]) (t := 34) (by simp))
    by_cases hlt : n < len
    · obtain ⟨ao3, cp3, h3, hs3⟩ := own_strs HV.out (fun j hj => by have := HM.out.it j hj; omega)
      cases h3
      have hci := itAt hs3 hlt
      rw [Nat.zero_add] at hci
      have hst : stV (S n) = 1 := by unfold stV; rw [if_pos (HN.out.2.2 hlt)]
      have F := Lib.hid (fun w' => state_c (S n) w' (by have := HM.out.it n hlt; omega))
      rw [hst] at F
      clear hst hs3
      go_wp2_with fail
      refine (F.out _).mono ?_
      rintro e w3 ⟨rfl, hb3⟩
      have HF := Lib.hid (HF.out.below hb3)
      have HV := Lib.hid (own_below HV.out hb3)
      have hci := bel_at hb3 hci
      clear hb3 F d3 d4 d6 d7 d8 d10
      obtain ⟨d3, d4, d6, d7, d8, d10⟩ := rec_cell (HF.out.row (b := bu) (c := #[.int .i64 0, .int .i64 0, .int .i64 0, .int .u8 1, .int .i64 xd, .int .i64 pg, .int .i64 n, .int .i64 0, .int .i64 0, .int .i64 0, .string s, .slice none 0 0, .slice none 0 0, .slice none 0 0, .slice none 0 0, .slice none 0 0]) (t := 34) (by simp))
      have hfr : w3.frozen? ⟨g, n, none⟩ = false := by
        obtain ⟨g', cp', e, _, _, _, hf⟩ := own_shape HV.out (by simp)
        cases e
        exact hf n
      go_upto_region 18 with (fail)
      have HV4 := Lib.hid (own_set HV.out hlt s)
      have HF4 : Hid (Fr w (w3.setCell ⟨g, n, none⟩ (.string s)) [(br, #[.int .i64 0, .int .i64 0, .int .i64 0, .int .i64 0, .string ⟨#[]⟩, .slice none 0 0], 24), (bu, #[.int .i64 0, .int .i64 0, .int .i64 0, .int .u8 1, .int .i64 xd, .int .i64 pg, .int .i64 n, .int .i64 0, .int .i64 0, .int .i64 0, .string s, .slice none 0 0, .slice none 0 0, .slice none 0 0, .slice none 0 0, .slice none 0 0], 34), (bt, #[.int .i64 a0, .int .i64 a1, .int .i64 a2, .int .i64 a3, .string h, .slice ao len cap], 24)]) := by
        refine ⟨fun q hq => ⟨((grown_set w3 g n _).block q.1 (row_lt (HF.out.rows q hq).1) ?_).trans (HF.out.rows q hq).1, (HF.out.rows q hq).2⟩, below_own HF.out.bel ?_ (grown_set _ _ _ _)⟩
        · have := HO.out; have := HG.out; have := HLB.out
          simp at hq
          rcases hq with rfl | rfl | rfl <;> (simp; omega)
        · have := HG.out; have := HLB.out; have := (HF.out.rows (br, #[.int .i64 0, .int .i64 0, .int .i64 0, .int .i64 0, .string ⟨#[]⟩, .slice none 0 0], 24) (by simp)).2
          omega
      clear hci hfr d3 d4 d6 d7 d8 d10 HV HF
      obtain rfl : len = L := by rw [HL.out, Nat.max_eq_left (by omega)]
      rw [← HT.out] at HV4
      generalize w3.setCell ⟨g, n, none⟩ (.string s) = w4 at *
      obtain ⟨c0, c1, c2, c3, c4, c5⟩ := pk_cells (HF4.out.row (b := bt) (c := #[.int .i64 a0, .int .i64 a1, .int .i64 a2, .int .i64 a3, .string h, .slice ao len cap]) (t := 24) (by simp))
      have hfr : w4.frozen? ⟨bt, 5, none⟩ = false := frozen_of_row w4 bt 5 _ _ (HF4.out.row (b := bt) (c := #[.int .i64 a0, .int .i64 a1, .int .i64 a2, .int .i64 a3, .string h, .slice ao len cap]) (t := 24) (by simp))
      go_upto_region 19 with (fail)
      have HF5 : Hid (Fr w (w4.setCell ⟨bt, 5, none⟩ (.slice (some ⟨g, 0, none⟩) len cp)) [(bt, #[.int .i64 a0, .int .i64 a1, .int .i64 a2, .int .i64 a3, .string h, .slice (some ⟨g, 0, none⟩) len cp], 24), (br, #[.int .i64 0, .int .i64 0, .int .i64 0, .int .i64 0, .string ⟨#[]⟩, .slice none 0 0], 24)]) := HF4.out.set (b := bt) (j := 5) (c := #[.int .i64 a0, .int .i64 a1, .int .i64 a2, .int .i64 a3, .string h, .slice ao len cap]) (.slice (some ⟨g, 0, none⟩) len cp) (by simp) (by have := HO.out; intro q hq; simp at hq; subst hq; exact ⟨by simp, by simp; omega⟩)
      have HV5 := Lib.hid (own_kept HV4.out (grown_set w4 bt 5 (.slice (some ⟨g, 0, none⟩) len cp)) (by have := HO.out; have := HLB.out; omega))
      clear c0 c1 c2 c3 c4 c5 hfr HF4 HV4
      generalize w4.setCell ⟨bt, 5, none⟩ (.slice (some ⟨g, 0, none⟩) len cp) = w5 at *
      obtain ⟨ao5, cp5, h5, hs5⟩ := own_strs HV5.out (fun j hj => by have := HM2.out.it j hj; omega)
      cases h5
      have F := Lib.hid (encode_all a0 a1 a2 a3 h _ len cp T w5 ha0 (by omega) HM2.out hs5)
      clear hs5
      obtain ⟨c0, c1, c2, c3, c4, c5⟩ := pk_cells (HF5.out.row (b := bt) (c := #[.int .i64 a0, .int .i64 a1, .int .i64 a2, .int .i64 a3, .string h, .slice (some ⟨g, 0, none⟩) len cp]) (t := 24) (by simp))
      obtain ⟨D, hD⟩ : ∃ D, D = encd a0 a1 a2 a3 h T len := ⟨_, rfl⟩
      rw [← hD] at F
      go_wp2_with fail
      clear c0 c1 c2 c3 c4 c5
      refine F.out.mono ?_
      rintro e w6 ⟨⟨z, E, rfl, hE⟩, hb6⟩
      have HF6 := Lib.hid (HF5.out.below hb6)
      have HV6 := Lib.hid (own_below HV5.out hb6)
      have HD := Lib.hid hD
      clear hb6 F HF5 HV5 hD
      obtain ⟨c0, c1, c2, c3, c4, c5⟩ := pk_cells (HF6.out.row (b := bt) (c := #[.int .i64 a0, .int .i64 a1, .int .i64 a2, .int .i64 a3, .string h, .slice (some ⟨g, 0, none⟩) len cp]) (t := 24) (by simp))
      have hr := HF6.out.row (b := br) (c := #[.int .i64 0, .int .i64 0, .int .i64 0, .int .i64 0, .string ⟨#[]⟩, .slice none 0 0]) (t := 24) (by simp)
      have hdec : (E == 0) = D := by
        rw [Bool.eq_iff_iff, beq_iff_eq]; exact hE
      clear hE
      go_wp2_with (refine wpList_st_row rfl 24 _ _ rfl br rfl _ rfl hr (by kernel_rfl) rfl (by simp [Value.oneCell']) (fun w7 hp7 hg7 => ?_); have P7 := Lib.hid hp7; have V7 := Lib.hid (own_kept HV6.out hg7 HLB.out); have B7 := Lib.hid (below_own HF6.out.bel (HF6.out.rows (br, #[.int .i64 0, .int .i64 0, .int .i64 0, .int .i64 0, .string ⟨#[]⟩, .slice none 0 0], 24) (by simp)).2 hg7); clear hp7 hg7)
      refine ret_cell rfl br _ _ _ _ rfl P7.out Try.underlying24 rfl (by kernel_rfl) rfl ?_
      obtain ⟨ao7, cp7, h7, hs7⟩ := own_strs V7.out (fun j hj => by have := HM2.out.it j hj; omega)
      cases h7
      refine ⟨some ⟨g, 0, none⟩, cp, ?_, hs7, fun b off e => by cases e; have := HLB.out; have := (HF6.out.rows (br, #[.int .i64 0, .int .i64 0, .int .i64 0, .int .i64 0, .string ⟨#[]⟩, .slice none 0 0], 24) (by simp)).2; have := (V7.out.lt g rfl).1; omega, B7.out⟩
      rw [← HD.out, ← hdec]
      rfl
    · obtain rfl : n = len := by omega
      obtain ⟨i0, hi, hz0, hz1, hz2⟩ := info_parts info_str
      have ha : Below wc.heap.size wc (wc.alloc (.cells #[.string ⟨#[]⟩] 9)) := (Below.refl _ _).alloc (Nat.le_refl _) _
      have HX : Hid ((wc.alloc (.cells #[.string ⟨#[]⟩] 9)).cell? ⟨wc.heap.size, 0, none⟩ = some (.string ⟨#[]⟩)) := by
        have hq := heap_alloc_new wc (.cells #[.string ⟨#[]⟩] 9)
        unfold Hid; simp only [World.cell?, hq]; rfl
      have HVa := Lib.hid (own_below HV.out ha)
      have HFa := Lib.hid (HF.out.below ha)
      have HSZ : Hid (w0.heap.size ≤ (wc.alloc (.cells #[.string ⟨#[]⟩] 9)).heap.size) := by
        have h1 := (HV.out.lt g rfl).2; have h2 := HG.out; have h3 := ha.size
        unfold Hid; omega
      clear ha
      have hnews : ∀ (j : Nat) u, [Value.string ⟨#[]⟩][j]? = some u → (wc.alloc (.cells #[.string ⟨#[]⟩] 9)).cell? ((⟨wc.heap.size, 0, none⟩ : Addr).add j) = some u := fun j u hj => by
        match j, hj with
        | 0, hj => simp at hj; subst hj; exact HX.out
      have hone : ∀ u ∈ [Value.string ⟨#[]⟩], u.oneCell' = true := fun u hu => by simp at hu; subst hu; rfl
      go_upto_region 17 with (at_builtin; refine wpList_append_own _ rfl _ _ 22 rfl w0.heap.size 9 i0 (.string ⟨#[]⟩) 1 16 Try.underlying22 hi hz0 hz1 hz2 rfl (by decide) _ _ _ rfl HVa.out ⟨wc.heap.size, 0, none⟩ 1 1 [.string ⟨#[]⟩] rfl rfl hnews hone (by unfold maxLen; omega) (by omega) HSZ.out (fun v w3 hown hgrow hnil => ?_))
      have hown2 : w3.ownsRow w0.heap.size 9 1 v (n + 1) (strs (updS S n ⟨#[]⟩) (n + 1)) := by rw [← strs_upd_end]; exact hown
      obtain ⟨g2, cp2, rfl, q1, q2, q3, qf⟩ := own_shape hown2 (own_ne hown2 (by omega))
      have hgrow2 : (wc.alloc (.cells #[.string ⟨#[]⟩] 9)).grownBy w3 (some g) := hgrow
      have HF3 := Lib.hid (HFa.out.grow hgrow2 (fun q hq => by have := row_lt (HFa.out.rows q hq).1; have := HG.out; have := HLB.out; have := HO.out; simp at hq; rcases hq with rfl | rfl | rfl <;> (simp; omega)) (fun b hb => by have := HG.out; have := HLB.out; have := (HF.out.rows (br, #[.int .i64 0, .int .i64 0, .int .i64 0, .int .i64 0, .string ⟨#[]⟩, .slice none 0 0], 24) (by simp)).2; simp at hb; omega))
      have HV3 := Lib.hid hown2
      have HG2 := Lib.hid q1
      obtain ⟨ao3, cp3, h3, hs3⟩ := own_strs hown2 (fun j hj => by
        unfold updS; split
        · exact Nat.zero_le _
        · have := HM.out.it j (by omega); omega)
      cases h3
      have hci := itAt hs3 (i := n) (by omega)
      rw [Nat.zero_add] at hci
      have hfr := qf n
      clear hown hgrow hgrow2 hnil hown2 q1 qf hs3 hnews hone HVa HFa HX HSZ HV HF d3 d4 d6 d7 d8 d10 hlc hcp HG
      obtain ⟨d3, d4, d6, d7, d8, d10⟩ := rec_cell (HF3.out.row (b := bu) (c := #[.int .i64 0, .int .i64 0, .int .i64 0, .int .u8 1, .int .i64 xd, .int .i64 pg, .int .i64 n, .int .i64 0, .int .i64 0, .int .i64 0, .string s, .slice none 0 0, .slice none 0 0, .slice none 0 0, .slice none 0 0, .slice none 0 0]) (t := 34) (by simp))
      obtain rfl : n + 1 = L := by rw [HL.out, Nat.max_eq_right (by omega)]
      go_upto_region 18 with (fail)
      have HV4 := Lib.hid (own_set HV3.out (show n < n + 1 by omega) s)
      rw [strs_updS_twice, ← HT.out] at HV4
      have HF4 := Lib.hid (HF3.out.grow (grown_set w3 g2 n (.string s)) (fun q hq => by have := HG2.out; have := HLB.out; have := HO.out; simp at hq; rcases hq with rfl | rfl | rfl <;> (simp; omega)) (fun b hb => by have := HG2.out; have := HLB.out; have := (HF3.out.rows (br, #[.int .i64 0, .int .i64 0, .int .i64 0, .int .i64 0, .string ⟨#[]⟩, .slice none 0 0], 24) (by simp)).2; simp at hb; omega))
      clear hci hfr d3 d4 d6 d7 d8 d10 HV3 HF3
      generalize w3.setCell ⟨g2, n, none⟩ (.string s) = w4 at *
      obtain ⟨c0, c1, c2, c3, c4, c5⟩ := pk_cells (HF4.out.row (b := bt) (c := #[.int .i64 a0, .int .i64 a1, .int .i64 a2, .int .i64 a3, .string h, .slice ao n cap]) (t := 24) (by simp))
      have hfr : w4.frozen? ⟨bt, 5, none⟩ = false := frozen_of_row w4 bt 5 _ _ (HF4.out.row (b := bt) (c := #[.int .i64 a0, .int .i64 a1, .int .i64 a2, .int .i64 a3, .string h, .slice ao n cap]) (t := 24) (by simp))
      go_upto_region 19 with (fail)
      have HF5 : Hid (Fr w (w4.setCell ⟨bt, 5, none⟩ (.slice (some ⟨g2, 0, none⟩) (n + 1) cp2)) [(bt, #[.int .i64 a0, .int .i64 a1, .int .i64 a2, .int .i64 a3, .string h, .slice (some ⟨g2, 0, none⟩) (n + 1) cp2], 24), (br, #[.int .i64 0, .int .i64 0, .int .i64 0, .int .i64 0, .string ⟨#[]⟩, .slice none 0 0], 24)]) := HF4.out.set (b := bt) (j := 5) (c := #[.int .i64 a0, .int .i64 a1, .int .i64 a2, .int .i64 a3, .string h, .slice ao n cap]) (.slice (some ⟨g2, 0, none⟩) (n + 1) cp2) (by simp) (by have := HO.out; intro q hq; simp at hq; subst hq; exact ⟨by simp, by simp; omega⟩)
      have HV5 := Lib.hid (own_kept HV4.out (grown_set w4 bt 5 (.slice (some ⟨g2, 0, none⟩) (n + 1) cp2)) (by have := HO.out; have := HLB.out; omega))
      clear c0 c1 c2 c3 c4 c5 hfr HF4 HV4
      generalize w4.setCell ⟨bt, 5, none⟩ (.slice (some ⟨g2, 0, none⟩) (n + 1) cp2) = w5 at *
      obtain ⟨ao5, cp5, h5, hs5⟩ := own_strs HV5.out (fun j hj => by have := HM2.out.it j hj; omega)
      cases h5
      have F := Lib.hid (encode_all a0 a1 a2 a3 h _ (n + 1) cp2 T w5 ha0 (by omega) HM2.out hs5)
      clear hs5
      obtain ⟨c0, c1, c2, c3, c4, c5⟩ := pk_cells (HF5.out.row (b := bt) (c := #[.int .i64 a0, .int .i64 a1, .int .i64 a2, .int .i64 a3, .string h, .slice (some ⟨g2, 0, none⟩) (n + 1) cp2]) (t := 24) (by simp))
      obtain ⟨D, hD⟩ : ∃ D, D = encd a0 a1 a2 a3 h T (n + 1) := ⟨_, rfl⟩
      rw [← hD] at F
      go_wp2_with fail
      clear c0 c1 c2 c3 c4 c5
      refine F.out.mono ?_
      rintro e w6 ⟨⟨z, E, rfl, hE⟩, hb6⟩
      have HF6 := Lib.hid (HF5.out.below hb6)
      have HV6 := Lib.hid (own_below HV5.out hb6)
      have HD := Lib.hid hD
      clear hb6 F HF5 HV5 hD
      obtain ⟨c0, c1, c2, c3, c4, c5⟩ := pk_cells (HF6.out.row (b := bt) (c := #[.int .i64 a0, .int .i64 a1, .int .i64 a2, .int .i64 a3, .string h, .slice (some ⟨g2, 0, none⟩) (n + 1) cp2]) (t := 24) (by simp))
      have hr := HF6.out.row (b := br) (c := #[.int .i64 0, .int .i64 0, .int .i64 0, .int .i64 0, .string ⟨#[]⟩, .slice none 0 0]) (t := 24) (by simp)
      have hdec : (E == 0) = D := by
        rw [Bool.eq_iff_iff, beq_iff_eq]; exact hE
      clear hE
      go_wp2_with (refine wpList_st_row rfl 24 _ _ rfl br rfl _ rfl hr (by kernel_rfl) rfl (by simp [Value.oneCell']) (fun w7 hp7 hg7 => ?_); have P7 := Lib.hid hp7; have V7 := Lib.hid (own_kept HV6.out hg7 HLB.out); have B7 := Lib.hid (below_own HF6.out.bel (HF6.out.rows (br, #[.int .i64 0, .int .i64 0, .int .i64 0, .int .i64 0, .string ⟨#[]⟩, .slice none 0 0], 24) (by simp)).2 hg7); clear hp7 hg7)
      refine ret_cell rfl br _ _ _ _ rfl P7.out Try.underlying24 rfl (by kernel_rfl) rfl ?_
      obtain ⟨ao7, cp7, h7, hs7⟩ := own_strs V7.out (fun j hj => by have := HM2.out.it j hj; omega)
      cases h7
      refine ⟨some ⟨g2, 0, none⟩, cp2, ?_, hs7, fun b off e => by cases e; have := HLB.out; have := (HF6.out.rows (br, #[.int .i64 0, .int .i64 0, .int .i64 0, .int .i64 0, .string ⟨#[]⟩, .slice none 0 0], 24) (by simp)).2; have := (V7.out.lt g2 rfl).1; omega, B7.out⟩
      rw [← HD.out, ← hdec]
      rfl
end Go.Proofs.Ytkjnjccjkjachaa
