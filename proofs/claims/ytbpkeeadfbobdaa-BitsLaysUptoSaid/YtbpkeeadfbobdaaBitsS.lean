/- The walks of BitsThere and BitsBack. -/
import Derived.Test.YtbpkeeadfbobdaaBitsR
import Derived.Test.YtbpkeeadfbobdaaItems
namespace Go.Proofs.Ytbpkeeadfbobdaa
open Go.RowKit
set_option linter.unusedSimpArgs false

/-- A writer that was made in the walk. -/
structure Wr1 (W wr : World) (bw B : Nat) (v : Value) (l : List UInt8) : Prop where
  wv : WrV wr bw B 5 v l
  bel : Below W.heap.size W wr
  n1 : W.heap.size ≤ bw
theorem Wr1.below {W wr w' : World} {bw B : Nat} {v : Value} {l : List UInt8} (h : Wr1 W wr bw B v l) (hb : Below wr.heap.size wr w') : Wr1 W w' bw B v l :=
  ⟨h.wv.below hb, h.bel.trans (hb.mono h.bel.size), h.n1⟩
theorem Wr1.touch {W wr w' : World} {bw B : Nat} {v : Value} {l : List UInt8} (h : Wr1 W wr bw B v l) {v' : Value} {l' : List UInt8} (hs : WS wr v bw B 5 w' v' l') : Below W.heap.size wr w' :=
  hs.touch.below h.bel.size h.n1 (fun g hg => by have := h.wv.ownGe g hg; have := h.wv.lt; have := h.n1; omega)
theorem Wr1.step {W wr w' : World} {bw B : Nat} {v : Value} {l : List UInt8} (h : Wr1 W wr bw B v l) {v' : Value} {l' : List UInt8} (hs : WS wr v bw B 5 w' v' l') : Wr1 W w' bw B v' l' :=
  ⟨hs.wr, h.bel.trans (h.touch hs), h.n1⟩
/-- The other's blocks stay. -/
theorem Wr1.grown {W wr w' : World} {bw B : Nat} {v : Value} {l : List UInt8} (h : Wr1 W wr bw B v l) {b : Nat} (hg : wr.grownBy w' (some b)) (h1 : b ≠ bw) (h2 : b < B) (h3 : W.heap.size ≤ b) : Wr1 W w' bw B v l :=
  ⟨h.wv.kept hg (by simp; omega) (by
    rcases hv : v.ownBlock with _ | g
    · exact .inl rfl
    · right; have := h.wv.ownGe g hv; simp; omega), h.bel.grown hg h.bel.size (by rintro j hj; cases hj; exact h3), h.n1⟩

/-- A reader and a writer: what is taken is laid. -/
structure Th (W wr : World) (b1 bw B : Nat) (s rest : ByteArray) (c : Int) (v : Value) (l : List UInt8) (k : Nat) : Prop where
  r : RdV wr b1 rest c
  w : Wr1 W wr bw B v l
  ok : c = 0 → s.data.toList = l ++ rest.data.toList
  er : c ≠ 0 → rest = ⟨#[]⟩
  len : l.length ≤ s.size + k
  n1 : W.heap.size ≤ b1
  ne : b1 < bw
theorem Th.below {W wr w' : World} {b1 bw B : Nat} {s rest : ByteArray} {c : Int} {v : Value} {l : List UInt8} {k : Nat} (h : Th W wr b1 bw B s rest c v l k) (hb : Below wr.heap.size wr w') : Th W w' b1 bw B s rest c v l k :=
  ⟨h.r.below hb, h.w.below hb, h.ok, h.er, h.len, h.n1, h.ne⟩
theorem Th.more {W wr : World} {b1 bw B : Nat} {s rest : ByteArray} {c : Int} {v : Value} {l : List UInt8} {k : Nat} (h : Th W wr b1 bw B s rest c v l k) : Th W wr b1 bw B s rest c v l (k + 1) :=
  ⟨h.r, h.w, h.ok, h.er, Nat.le_succ_of_le h.len, h.n1, h.ne⟩
/-- Behind a taking. -/
theorem Th.rd {W wr w' : World} {b1 bw B : Nat} {s rest : ByteArray} {c : Int} {v : Value} {l : List UInt8} {k : Nat} (h : Th W wr b1 bw B s rest c v l k) (hg : wr.grownBy w' (some b1)) : Wr1 W w' bw B v l :=
  h.w.grown hg (by have := h.ne; omega) (by have := h.ne; have := h.w.wv.lt; omega) h.n1
theorem Th.at {W wr w' : World} {b1 bw B : Nat} {s rest : ByteArray} {c : Int} {v : Value} {l : List UInt8} {k : Nat} (h : Th W wr b1 bw B s rest c v l k) (hg : wr.grownBy w' (some b1)) {w'' : World} {v' : Value} {l' : List UInt8} (hs : WS w' v bw B 5 w'' v' l')
    {rest' : ByteArray} {c' : Int} (hr : RdV w' b1 rest' c') (hok : c' = 0 → s.data.toList = l' ++ rest'.data.toList) (her : c' ≠ 0 → rest' = ⟨#[]⟩) (hl : l'.length ≤ s.size + k) : Th W w'' b1 bw B s rest' c' v' l' k := by
  have hw := h.rd hg
  have h1 := h.ne
  have h2 := h.w.wv.lt
  exact ⟨hr.touch hs.touch (by omega) (fun e => by have := h.w.wv.ownGe b1 e.symm; omega), hw.step hs, hok, her, hl, h.n1, h.ne⟩

theorem rd_lt (most : Int) : ∀ (f k acc : Nat) (l : List UInt8) (m k' : Nat), k + f ≤ 9 → acc < 128 ^ k → rd most f k acc l = .inr (m, k') → m < 9223372036854775808 := by
  intro f
  induction f with
  | zero => intro k acc l m k' _ _ h; rw [rd] at h; cases h
  | succ f ih =>
    intro k acc l m k' hk ha h
    cases l with
    | nil => rw [rd] at h; cases h
    | cons b l =>
      have hn := acc_lt (b := b.toNat) ha
      rw [rd] at h
      split at h
      · cases h
      · split at h
        · exact ih (k + 1) _ _ _ _ (by omega) hn h
        · split at h
          · cases h
          · injection h with h; injection h with h1 _
            have := pow_le9 (k := k + 1) (by omega)
            omega
theorem numOut_lt (s : ByteArray) (most : Int) : (numOut s most).1 ≤ 9223372036854775807 := by
  unfold numOut
  split
  · show (0 : Int) ≤ _; decide
  · rename_i m k hx
    have := rd_lt most 9 0 0 _ _ _ (by omega) (by decide) hx
    show (m : Int) ≤ _
    omega

/-- What a number's step lays. -/
theorem num_step {s rest : ByteArray} {c : Int} {l : List UInt8} {k : Nat} (most : Int) (ok : c = 0 → s.data.toList = l ++ rest.data.toList) (er : c ≠ 0 → rest = ⟨#[]⟩) (hl : l.length ≤ s.size + k) :
    ((stepN rest c most).2.2 = 0 → s.data.toList = (l ++ sev (stepN rest c most).1.toNat) ++ (stepN rest c most).2.1.data.toList) ∧ ((stepN rest c most).2.2 ≠ 0 → (stepN rest c most).2.1 = ⟨#[]⟩) ∧
      (l ++ sev (stepN rest c most).1.toNat).length ≤ s.size + (k + 1) ∧ (stepN rest c most).1 ≤ 9223372036854775807 := by
  have h0 : (sev 0).length = 1 := by rw [sev_low (by decide)]; rfl
  refine ⟨?_, stepN_err rest c most er, ?_, ?_⟩
  all_goals unfold stepN
  all_goals by_cases hc : c = 0
  · rw [if_pos hc]
    intro h
    rcases numOut_cases rest most with ⟨c', hn, hc'⟩ | ⟨n, r, hn⟩
    · rw [hn] at h; simp at h; omega
    · rw [ok hc, numOut_inv rest most n r hn, hn]; simp
  · rw [if_neg hc]; intro h; exact absurd h hc
  · rw [if_pos hc]
    rcases numOut_cases rest most with ⟨c', hn, hc'⟩ | ⟨n, r, hn⟩
    · rw [hn]; simp [h0]; omega
    · have h1 := congrArg List.length (ok hc)
      rw [numOut_inv rest most n r hn, Array.length_toList] at h1
      have h2 : s.data.size = s.size := rfl
      rw [hn]
      simp only [List.length_append, Int.toNat_natCast] at *
      omega
  · rw [if_neg hc]; simp [h0]; omega
  · rw [if_pos hc]; exact numOut_lt _ _
  · rw [if_neg hc]; show (0 : Int) ≤ _; decide
theorem text_step {s rest : ByteArray} {c : Int} {l : List UInt8} {k : Nat} (most : Int) (ok : c = 0 → s.data.toList = l ++ rest.data.toList) (er : c ≠ 0 → rest = ⟨#[]⟩) (hl : l.length ≤ s.size + k) :
    ((stepT rest c most).2.2 = 0 → s.data.toList = (l ++ txl (stepT rest c most).1) ++ (stepT rest c most).2.1.data.toList) ∧ ((stepT rest c most).2.2 ≠ 0 → (stepT rest c most).2.1 = ⟨#[]⟩) ∧
      (l ++ txl (stepT rest c most).1).length ≤ s.size + (k + 1) ∧ l.length + (stepT rest c most).1.size ≤ s.size + k := by
  have h0 : txl ⟨#[]⟩ = [0] := by unfold txl; rw [show (ByteArray.size ⟨#[]⟩) = 0 from rfl, sev_low (by decide)]; rfl
  have key : (stepT rest c most).2.2 ≠ 0 ∧ (stepT rest c most).1 = ⟨#[]⟩ ∨ (c = 0 ∧ ∃ (n : Nat) (r : ByteArray), numOut rest most = ((n : Int), r, 0) ∧ n ≤ r.size ∧ stepT rest c most = (⟨(r.data.toList.take n).toArray⟩, ⟨(r.data.toList.drop n).toArray⟩, 0)) := by
    unfold stepT
    by_cases hc : c = 0
    · rw [if_pos hc]
      rcases numOut_cases rest most with ⟨c', hn, hc'⟩ | ⟨n, r, hn⟩
      · have e : textOut rest most = (⟨#[]⟩, ⟨#[]⟩, (c' : Int)) := by unfold textOut; rw [hn]; simp; omega
        left; rw [e]; exact ⟨by simp; omega, rfl⟩
      · have e : textOut rest most = if (r.size : Int) < n then (⟨#[]⟩, ⟨#[]⟩, 10) else (⟨(r.data.toList.take n).toArray⟩, ⟨(r.data.toList.drop n).toArray⟩, 0) := by unfold textOut; rw [hn]; simp
        by_cases hlt : (r.size : Int) < n
        · left; rw [e, if_pos hlt]; exact ⟨by simp, rfl⟩
        · right; exact ⟨hc, n, r, hn, by omega, by rw [e, if_neg hlt]⟩
    · rw [if_neg hc]; left; exact ⟨hc, rfl⟩
  refine ⟨?_, stepT_err rest c most er, ?_, ?_⟩
  · intro h
    rcases key with ⟨h1, _⟩ | ⟨hc, n, r, hn, hle, e⟩
    · exact absurd h h1
    · rw [ok hc, numOut_inv rest most n r hn, e]
      have hs : (ByteArray.size ⟨(r.data.toList.take n).toArray⟩) = n := by
        show (r.data.toList.take n).toArray.size = n
        rw [List.size_toArray, List.length_take, Array.length_toList]
        exact Nat.min_eq_left hle
      unfold txl
      rw [hs]
      simp
  · rcases key with ⟨_, h1⟩ | ⟨hc, n, r, hn, hle, e⟩
    · rw [h1, h0]; simp; omega
    · have h1 := congrArg List.length (ok hc)
      rw [numOut_inv rest most n r hn, Array.length_toList] at h1
      have h2 : s.data.size = s.size := rfl
      have h3 : r.data.toList.length = r.size := Array.length_toList
      have hs : (ByteArray.size ⟨(r.data.toList.take n).toArray⟩) = n := by
        show (r.data.toList.take n).toArray.size = n
        rw [List.size_toArray, List.length_take, Array.length_toList]
        exact Nat.min_eq_left hle
      rw [e]
      unfold txl
      rw [hs]
      simp only [List.length_append, List.toList_toArray, List.length_take] at *
      omega
  · rcases key with ⟨_, h1⟩ | ⟨hc, n, r, hn, hle, e⟩
    · rw [h1]; show l.length + 0 ≤ _; exact hl
    · have h1 := congrArg List.length (ok hc)
      rw [numOut_inv rest most n r hn, Array.length_toList] at h1
      have h2 : s.data.size = s.size := rfl
      have h3 : r.data.toList.length = r.size := Array.length_toList
      have hs : (ByteArray.size ⟨(r.data.toList.take n).toArray⟩) = n := by
        show (r.data.toList.take n).toArray.size = n
        rw [List.size_toArray, List.length_take, Array.length_toList]
        exact Nat.min_eq_left hle
      rw [e]
      simp only [hs, List.length_append] at *
      omega

set_option maxRecDepth 100000 in
set_option maxHeartbeats 4000000 in
theorem bitsThere_w (s : ByteArray) (ao : Option Addr) (len cap : Nat) (K N : Nat → Int) (S : Nat → ByteArray) (w : World) (hs : s.size ≤ 1048576) (hlen : len ≤ 1048576) (hit : ItemsIn w ao len K N S) :
    Calls Try.prog 8 #[.string s, .slice ao len cap] w fun e w' => e = .returned (.bool true) ∧ Below w.heap.size w w' := by
  have HIT := Lib.hid hit
  clear hit
  go_enter Try.func8, Try.ntmps8
  go_wp2_with fail
  refine (read_c s _).mono ?_
  rintro e w1 ⟨rfl, hr, hb, hsz⟩
  have HR := Lib.hid hr
  have HB := Lib.hid hb
  have HZ := Lib.hid hsz
  clear hr hb hsz
  go_wp2_with fail
  refine (new_c _).mono ?_
  rintro e w2 ⟨rfl, hw2, hb2, hz2⟩
  have HS : Hid (∃ B v, Th w w2 w.heap.size w1.heap.size B s s 0 v [] 0) :=
    ⟨_, _, HR.out.below hb2, ⟨hw2, HB.out.trans (hb2.mono HB.out.size), HB.out.size⟩, fun _ => rfl, fun h => absurd rfl h, Nat.zero_le _, Nat.le_refl _, by have := HZ.out; omega⟩
  obtain ⟨b1, hb1⟩ : ∃ b1, b1 = w.heap.size := ⟨_, rfl⟩
  obtain ⟨bw, hbw⟩ : ∃ bw, bw = w1.heap.size := ⟨_, rfl⟩
  rw [← hb1, ← hbw]
  have HS1 : Hid (∃ B v, Th w w2 b1 bw B s s 0 v [] 0) := by rw [hb1, hbw]; exact HS
  clear HS HR HB HZ hb1 hbw hw2 hb2 hz2 w1
  go_wp2_with fail
  go_loopw [7] (fun i wr => ∃ k : Nat, k ≤ len ∧ i = .int .i64 k ∧ Hid (∃ B rest c v l, Th w wr b1 bw B s rest c v l k)) (fun i _ => len - (intOf i).toNat)
  case atStart => obtain ⟨B, v, h⟩ := HS1.out; exact ⟨0, Nat.zero_le _, rfl, ⟨B, s, 0, v, [], h⟩⟩
  case round =>
    obtain ⟨k, hk, rfl, HR⟩ := hrel
    obtain ⟨B, rest, c, v, l, hT⟩ := HR.out
    have HT := Lib.hid hT
    clear hT HR HS1
    by_cases hlt : k < len
    · obtain ⟨b, off, hao, q0, q1, _⟩ := HIT.out k hlt
      have r0 := (HT.out.w.bel.cell (p := ⟨b, off + k * 3, none⟩) (World.block_lt_of_cell? w _ q0)).trans q0
      have r1 := (HT.out.w.bel.cell (p := ⟨b, off + k * 3 + 1, none⟩) (World.block_lt_of_cell? w _ q1)).trans q1
      rw [hao]
      clear hao q0 q1
      generalize K k = q at r0
      generalize N k = z at r1
      have HNS := Lib.hid (num_step z HT.out.ok HT.out.er HT.out.len)
      have HTS := Lib.hid (text_step z HT.out.ok HT.out.er HT.out.len)
      have C1 := Lib.hid (fun w => num_any b1 rest c z w)
      have C2 := Lib.hid (fun w => text_any b1 rest c z w)
      generalize stepN rest c z = o at C1 HNS
      generalize stepT rest c z = t at C2 HTS
      obtain ⟨o1, R, E⟩ := o
      obtain ⟨t1, RT, ET⟩ := t
      have HL := Lib.hid HT.out.len
      go_wp2_with fail
      · refine (C1.out _ HT.out.r).mono ?_
        rintro e w3 ⟨rfl, hr3, hg3⟩
        have HR3 := Lib.hid hr3
        have HG3 := Lib.hid hg3
        clear hr3 hg3
        go_wp2_with fail
        refine (num1_c bw B v l o1 w3 _ (HT.out.rd HG3.out).wv rfl HNS.out.2.2.2 (by have := HL.out; omega)).mono ?_
        rintro e w4 ⟨rfl, v', hs4⟩
        have H4 : Hid (Th w w4 b1 bw B s R E v' (l ++ sev o1.toNat) (k + 1)) := HT.out.more.at HG3.out hs4 HR3.out HNS.out.1 HNS.out.2.1 HNS.out.2.2.1
        clear hs4
        go_wp2_with fail
        go_roundw
        case rel => exact ⟨k + 1, by omega, by go_num, ⟨B, R, E, v', _, H4.out⟩⟩
        case measure => simp [intOf]; omega
      · refine (C2.out _ HT.out.r).mono ?_
        rintro e w3 ⟨rfl, hr3, hg3⟩
        have HR3 := Lib.hid hr3
        have HG3 := Lib.hid hg3
        clear hr3 hg3
        go_wp2_with fail
        refine (text_c bw B v l t1 w3 (HT.out.rd HG3.out).wv (by have := HTS.out.2.2.2; omega) (by have := HTS.out.2.2.2; omega)).mono ?_
        rintro e w4 ⟨rfl, v', hs4⟩
        have H4 : Hid (Th w w4 b1 bw B s RT ET v' (l ++ txl t1) (k + 1)) := HT.out.more.at HG3.out hs4 HR3.out HTS.out.1 HTS.out.2.1 HTS.out.2.2.1
        clear hs4
        go_wp2_with fail
        go_roundw
        case rel => exact ⟨k + 1, by omega, by go_num, ⟨B, RT, ET, v', _, H4.out⟩⟩
        case measure => simp [intOf]; omega
      · go_roundw
        case rel => exact ⟨k + 1, by omega, by go_num, ⟨B, rest, c, v, l, HT.out.more⟩⟩
        case measure => simp [intOf]; omega
    · go_wp2_with fail
      refine (awake_c _).mono ?_
      rintro e w5 ⟨rfl, hb5⟩
      have H5 := Lib.hid (HT.out.below hb5)
      clear hb5
      by_cases hend : endV rest.size c = 0
      · have hc : c = 0 := by unfold endV at hend; split at hend <;> omega
        have HSE : Hid (l = s.data.toList) := by
          have h1 := H5.out.ok hc
          have h2 : rest.data.toList = [] := by
            have h3 : rest.size = 0 := by
              rcases Nat.eq_zero_or_pos rest.size with h | h
              · exact h
              · exfalso; unfold endV at hend; rw [if_pos ⟨hc, h⟩] at hend; cases hend
            exact List.eq_nil_of_length_eq_zero (by rw [Array.length_toList]; exact h3)
          rw [h2, List.append_nil] at h1
          exact h1.symm
        have HE := Lib.hid (end_r b1 rest c w5 H5.out.r)
        rw [hend] at HE
        clear hend
        go_wp2_with fail
        refine HE.out.mono ?_
        rintro e w6 ⟨rfl, rfl⟩
        go_wp2_with fail
        refine (bytes_c bw B v l _ H5.out.w.wv).mono ?_
        rintro e w6 ⟨rfl, rfl⟩
        rw [HSE.out, show (⟨s.data.toList.toArray⟩ : ByteArray) = s from by cases s; simp]
        go_wp2_with fail
        go_ret
        exact ⟨rfl, H5.out.w.bel⟩
      · have HE := Lib.hid (end_r b1 rest c w5 H5.out.r)
        generalize endV rest.size c = e1 at *
        have he : (e1 == 0) = false := by rw [beq_eq_false_iff_ne]; exact hend
        have he2 : (e1 != 0) = true := by simp [bne, he]
        clear hend
        go_wp2_with fail
        refine HE.out.mono ?_
        rintro e w6 ⟨rfl, rfl⟩
        go_wp2_with fail
        go_ret
        exact ⟨rfl, H5.out.w.bel⟩
end Go.Proofs.Ytbpkeeadfbobdaa
