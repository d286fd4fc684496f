/- The walk of HeapFinds. -/
import Derived.Test.YtkjnjccjkjachaaHpO
namespace Go.Proofs.Ytkjnjccjkjachaa
open Go.RowKit
set_option linter.unusedSimpArgs false
set_option linter.unusedVariables false
set_option maxRecDepth 100000

theorem insE_zero {a1 : Int} {h : ByteArray} {S : Nat → ByteArray} {len n : Nat} {x y : Int} {f : Bool} {k v : ByteArray} (he : insE a1 h S len n x y f k v = 0) : a1 = 2 ∧ encok x y k v = true ∧ layE h S len n ⟨(encL x y f k v).toArray⟩ = 0 := by
  unfold insE at he
  by_cases h1 : a1 = 2
  · rw [if_neg (by simp [h1])] at he
    by_cases h2 : encok x y k v = true
    · rw [if_neg (by simp [h2])] at he
      by_cases h3 : layE h S len n ⟨(encL x y f k v).toArray⟩ = 0
      · exact ⟨h1, h2, h3⟩
      · rw [if_neg h3] at he; omega
    · rw [if_pos h2] at he; omega
  · rw [if_pos h1] at he; omega
theorem enc_size {x y : Int} {f : Bool} {k v : ByteArray} (h : encok x y k v = true) : (⟨(encL x y f k v).toArray⟩ : ByteArray).size ≤ 95 := by
  rw [mk_size, encL_len h]
  have := encok_yes h
  omega
theorem insE_other {a1 : Int} {h : ByteArray} {S : Nat → ByteArray} {len n : Nat} {x y : Int} {f : Bool} {k v : ByteArray} (hn : isFst S len n) (he : insE a1 h S len n x y f k v ≠ 0) :
    (insE a1 h S len n x y f k v = 120 ∨ insE a1 h S len n x y f k v = 110) ∨ (insE a1 h S len n x y f k v = 121 ∧ hroom a1 h S len n < 96) := by
  by_cases h1 : a1 = 2
  · by_cases h2 : encok x y k v = true
    · right
      have q := insE_of (f := f) (h := h) (S := S) h1 h2 hn
      by_cases h3 : (⟨(encL x y f k v).toArray⟩ : ByteArray).size ≤ hroom 2 h S len n
      · rw [if_pos h3] at q; exact absurd q he
      · rw [if_neg h3] at q
        have := enc_size (f := f) h2
        exact ⟨q, by rw [h1]; omega⟩
    · exact .inl (.inr (by unfold insE; rw [if_neg (by simp [h1]), if_pos h2]))
  · exact .inl (.inl (by unfold insE; rw [if_pos h1]))
theorem hroom_le (a1 : Int) (h : ByteArray) (S : Nat → ByteArray) (len n : Nat) : hroom a1 h S len n ≤ 512 := by
  unfold hroom; split <;> (try split) <;> (try split) <;> omega
/-- What is laid leaves less room. -/
theorem room_after {h : ByteArray} {S : Nat → ByteArray} {len n n2 : Nat} {x : ByteArray} (hn : isFst S len n) (hx : 0 < x.size) (hl : layE h S len n x = 0) (hn2 : isFst (updS S n x) (max len (n + 1)) n2) :
    hroom 2 h (updS S n x) (max len (n + 1)) n2 ≤ hroom 2 h S len n := by
  by_cases h1 : n < len
  · rw [lay_free h1 (hn.2.2 h1)] at hl
    have h2 : len ≤ 255 ∧ psz h S len + x.size ≤ 512 := by
      by_cases hh : len ≤ 255 ∧ psz h S len + x.size ≤ 512
      · exact hh
      · rw [if_neg hh] at hl; omega
    rw [Nat.max_eq_left (by omega)] at hn2 ⊢
    have h3 := itot_upd S n x h1
    have h4 : psz h (updS S n x) len = psz h S len + x.size := by unfold psz; have := hn.2.2 h1; omega
    have e1 : hroom 2 h S len n = 512 - psz h S len := by unfold hroom; rw [if_neg (by omega), if_pos h1]
    rw [e1]
    unfold hroom
    rw [if_neg (by omega), h4]
    split
    · omega
    · split <;> omega
  · have e : n = len := by have := hn.1; omega
    subst e
    rw [lay_end] at hl
    have h2 : n < 255 ∧ psz h S n + 2 + x.size ≤ 512 := by
      by_cases hh : n < 255 ∧ psz h S n + 2 + x.size ≤ 512
      · exact hh
      · rw [if_neg hh] at hl; omega
    rw [Nat.max_eq_right (by omega)] at hn2 ⊢
    have h3 := itot_end S n x
    have h4 : psz h (updS S n x) (n + 1) = psz h S n + (2 + x.size) := by unfold psz; omega
    have e1 : hroom 2 h S n n = 510 - psz h S n := by unfold hroom; rw [if_neg (by omega), if_neg h1, if_neg (by omega)]
    rw [e1]
    unfold hroom
    rw [if_neg (by omega), h4]
    split
    · omega
    · split <;> omega
theorem encd_after {a0 a1 a2 a3 : Int} {h : ByteArray} {S : Nat → ByteArray} {len n : Nat} {x : ByteArray} (hd : encd a0 a1 a2 a3 h S len = true) (hl : layE h S len n x = 0) : encd a0 a1 a2 a3 h (updS S n x) (max len (n + 1)) = true := by
  unfold encd at hd ⊢
  rw [Bool.and_eq_true] at hd ⊢
  refine ⟨hd.1, ?_⟩
  unfold layE at hl
  by_cases hh : okfit h (updS S n x) (max len (n + 1)) = true
  · exact hh
  · rw [if_neg hh] at hl; omega

set_option maxHeartbeats 16000000 in
theorem heapFinds_w (a0 a1 a2 a3 : Int) (h : ByteArray) (ao : Option Addr) (len cap : Nat) (S : Nat → ByteArray) (x y : Int) (f : Bool) (k v : ByteArray) (w : World) (ha0 : a0 ≤ 9223372036854775807) (hlen : len ≤ 8796093022000) (hM : Small h S len) (hs : StrsIn w ao len S) :
    Calls Try.prog 3 #[.agg #[.int .i64 a0, .int .i64 a1, .int .i64 a2, .int .i64 a3, .string h, .slice ao len cap], .agg #[.int .i64 x, .int .i64 y, .bool f, .string k, .string v]] w fun e w' => e = .returned (.bool true) ∧ Below w.heap.size w w' := by
  have HS := Lib.hid hs
  obtain ⟨n, hn⟩ := fst_ex S len
  obtain ⟨wc, bt, bu, hwc, hbt, hbu, h1, hbb⟩ := Fr.new2 w #[.int .i64 a0, .int .i64 a1, .int .i64 a2, .int .i64 a3, .string h, .slice ao len cap] #[.int .i64 x, .int .i64 y, .bool f, .string k, .string v] 24 26
  have H1 := Lib.hid h1
  have HWC := Lib.hid hwc
  have HBT := Lib.hid hbt
  have HBU := Lib.hid hbu
  clear hwc hbt hbu h1 hs hbb
  have FA := Lib.hid awake_c
  have FRm := Lib.hid (fun w' hh => room_c a0 a1 a2 a3 h ao len cap n S w' (by omega) hM hn hh)
  have FI := Lib.hid (fun w' hh => ins_c a0 a1 a2 a3 h ao len cap S n x y f k v 7 w' hlen hM hn hh)
  have HN := Lib.hid hn
  have HM := Lib.hid hM
  have HIO := Lib.hid (fun he => insE_other (a1 := a1) (h := h) (x := x) (y := y) (f := f) (k := k) (v := v) hn he)
  have HIZ : Hid (insE a1 h S len n x y f k v = 0 → (⟨(encL x y f k v).toArray⟩ : ByteArray).size ≤ hroom a1 h S len n) := by
    intro he
    obtain ⟨q1, q2, q3⟩ := insE_zero he
    subst q1
    exact (lay_room hn (enc_pos x y f k v)).1 q3
  have HZ := Lib.hid (fun he => insE_zero (a1 := a1) (h := h) (S := S) (len := len) (n := n) (x := x) (y := y) (f := f) (k := k) (v := v) he)
  have hRl := hroom_le a1 h S len n
  clear hn hM
  obtain ⟨E, hE⟩ : ∃ E, E = insE a1 h S len n x y f k v := ⟨_, rfl⟩
  obtain ⟨R, hR⟩ : ∃ R, R = hroom a1 h S len n := ⟨_, rfl⟩
  rw [← hE] at FI HIO HIZ HZ
  rw [← hR] at FRm HIO HIZ hRl
  have HR := Lib.hid hR
  clear hE hR
  go_enter Try.func3, Try.ntmps3
  have c := pk_cells (H1.out.row (b := bt) (c := #[.int .i64 a0, .int .i64 a1, .int .i64 a2, .int .i64 a3, .string h, .slice ao len cap]) (t := 24) (by simp))
  rw [HWC.out, HBT.out] at c
  obtain ⟨c0, c1, c2, c3, c4, c5⟩ := c
  go_wp2_with fail
  clear c0 c1 c2 c3 c4 c5
  rw [← HWC.out, ← HBU.out, ← HBT.out]
  clear HWC HBT HBU
  refine (FRm.out wc (HS.out.below H1.out.bel rfl)).mono ?_
  rintro e w2 ⟨rfl, hb2⟩
  have H2 := Lib.hid (H1.out.below hb2)
  clear hb2 H1 FRm
  obtain ⟨c0, c1, c2, c3, c4, c5⟩ := pk_cells (H2.out.row (b := bt) (c := #[.int .i64 a0, .int .i64 a1, .int .i64 a2, .int .i64 a3, .string h, .slice ao len cap]) (t := 24) (by simp))
  obtain ⟨d0, d1, d2, d3, d4⟩ := tu_cell (H2.out.row (b := bu) (c := #[.int .i64 x, .int .i64 y, .bool f, .string k, .string v]) (t := 26) (by simp))
  go_wp2_with fail
  clear c0 c1 c2 c3 c4 c5 d0 d1 d2 d3 d4
  refine (FI.out w2 (HS.out.below H2.out.bel rfl)).mono ?_
  rintro e w3 ⟨kd, xd, pg, sl, da, rfl, hrec, hb3⟩
  have H3 := Lib.hid (H2.out.below hb3)
  clear hb3 H2 FI
  have HREC := Lib.hid hrec
  clear hrec
  have hnr : (w3.alloc (.cells #[.int .i64 0, .int .i64 0, .int .i64 0, .int .u8 0, .int .i64 0, .int .i64 0, .int .i64 0, .int .i64 0, .int .i64 0, .int .i64 0, .string ⟨#[]⟩, .slice none 0 0, .slice none 0 0, .slice none 0 0, .slice none 0 0, .slice none 0 0] 34)).heap[w3.heap.size]? = some (.cells #[.int .i64 0, .int .i64 0, .int .i64 0, .int .u8 0, .int .i64 0, .int .i64 0, .int .i64 0, .int .i64 0, .int .i64 0, .int .i64 0, .string ⟨#[]⟩, .slice none 0 0, .slice none 0 0, .slice none 0 0, .slice none 0 0, .slice none 0 0] 34 (0, 0)) := heap_alloc_new w3 _
  go_upto_region 3 with (refine wpList_st_row rfl 34 _ _ rfl w3.heap.size rfl _ rfl hnr (by kernel_rfl) rfl (by simp [Value.oneCell']) (fun w4 hp4 hg4 => ?_); have H4 := Lib.hid (H3.out.fresh hg4 hp4); clear hp4 hg4)
  clear hnr H3
  generalize w3.heap.size = br at *
  by_cases hE : E = 0
  · subst hE
    obtain ⟨rfl, hx9, rfl, rfl, rfl⟩ := HREC.out rfl
    have hx8 := hx9.symm
    subst hx8
    clear hx9
    obtain ⟨rfl, hok, hlay⟩ := HZ.out rfl
    have hsR := HIZ.out rfl
    have hss := enc_size (f := f) hok
    have HDEC := Lib.hid (dec_enc x y f k v hok)
    have HPOS := Lib.hid (enc_pos x y f k v)
    have HOK := Lib.hid hok
    have HLAY := Lib.hid hlay
    clear HREC HZ HIZ HIO hok hlay
    obtain ⟨s, hsd⟩ : ∃ s : ByteArray, s = ⟨(encL x y f k v).toArray⟩ := ⟨_, rfl⟩
    rw [← hsd] at hsR hss HDEC HPOS HLAY H4 ⊢
    clear hsd
    obtain ⟨L, hL⟩ : ∃ L, L = max len (n + 1) := ⟨_, rfl⟩
    obtain ⟨T, hT⟩ : ∃ T, T = updS S n s := ⟨_, rfl⟩
    have hLl : len ≤ L ∧ n < L ∧ L ≤ len + 1 := by have := HN.out.1; rw [hL]; omega
    have HMT : Small h T L := ⟨HM.out.hh, fun j hj => by
      rw [hT]; unfold updS; split
      · omega
      · exact HM.out.it j (by rw [hL] at hj; have := HN.out.1; omega)⟩
    obtain ⟨n2, hn2⟩ := fst_ex T L
    have hR2 : hroom 2 h T L n2 ≤ R := by
      rw [hT, hL] at hn2 ⊢
      rw [HR.out]
      exact room_after HN.out HPOS.out HLAY.out hn2
    have F7 := Lib.hid (fun w' hh => encode_all a0 2 a2 a3 h ao len cap S w' ha0 (by omega) HM.out hh)
    have F8 := Lib.hid (fun w' hh => does_c a0 2 a2 a3 h ao len cap S n x 7 s w' ha0 hlen HM.out (by omega) HN.out hh)
    rw [← hL, ← hT] at F8
    unfold DOut at F8
    have F13 := Lib.hid (fun aoq cpq w' hh => look_c a0 2 a2 a3 h aoq L cpq T n k w' (by omega) hh)
    have hat : lookD (atV 2 T L n) k = some (x, y, f, k, v) := by
      unfold atV
      rw [if_pos ⟨rfl, by omega, by omega⟩]
      show lookD (decV (T n)) k = _
      rw [hT, updS_same, HDEC.out, lookD_same]
    rw [hat] at F13
    unfold atRes at F13
    have F14 := Lib.hid (fun aoq cpq w' hh => room_c a0 2 a2 a3 h aoq L cpq n2 T w' (by omega) HMT hn2 hh)
    have HD2 : Hid (encd a0 2 a2 a3 h S len = true → encd a0 2 a2 a3 h T L = true) := by
      intro hd
      rw [hT, hL]
      exact encd_after hd HLAY.out
    have HTS : Hid (∀ i, i ≠ n → T i = S i) := fun i hi => by rw [hT]; exact updS_other S s hi
    generalize hroom 2 h T L n2 = R2 at *
    generalize encd a0 2 a2 a3 h S len = D1 at *
    generalize encd a0 2 a2 a3 h T L = D2 at *
    clear hat hn2 HMT HDEC HPOS HLAY HR HN HM hL hT
    obtain ⟨r0, r1, r2, r3, r4, r5, r6, r7, r8, r9, r10, r11, r12, r13, r14, r15⟩ := rec_all (H4.out.row (b := br) (c := #[.int .i64 0, .int .i64 0, .int .i64 0, .int .u8 1, .int .i64 x, .int .i64 7, .int .i64 n, .int .i64 0, .int .i64 0, .int .i64 0, .string s, .slice none 0 0, .slice none 0 0, .slice none 0 0, .slice none 0 0, .slice none 0 0]) (t := 34) (by simp))
    obtain ⟨c0, c1, c2, c3, c4, c5⟩ := pk_cells (H4.out.row (b := bt) (c := #[.int .i64 a0, .int .i64 2, .int .i64 a2, .int .i64 a3, .string h, .slice ao len cap]) (t := 24) (by simp))
    go_wp2_with fail
    clear c0 c1 c2 c3 c4 c5 r0 r1 r2 r3 r4 r5 r6 r7 r8 r9 r10 r11 r12 r13 r14 r15
    refine (F7.out w4 (HS.out.below H4.out.bel rfl)).mono ?_
    rintro e w5 ⟨⟨z1, E1, rfl, hE1⟩, hb5⟩
    have H5 := Lib.hid (H4.out.below hb5)
    have HE1 := Lib.hid hE1
    clear hb5 H4 F7 hE1
    obtain ⟨r0, r1, r2, r3, r4, r5, r6, r7, r8, r9, r10, r11, r12, r13, r14, r15⟩ := rec_all (H5.out.row (b := br) (c := #[.int .i64 0, .int .i64 0, .int .i64 0, .int .u8 1, .int .i64 x, .int .i64 7, .int .i64 n, .int .i64 0, .int .i64 0, .int .i64 0, .string s, .slice none 0 0, .slice none 0 0, .slice none 0 0, .slice none 0 0, .slice none 0 0]) (t := 34) (by simp))
    obtain ⟨c0, c1, c2, c3, c4, c5⟩ := pk_cells (H5.out.row (b := bt) (c := #[.int .i64 a0, .int .i64 2, .int .i64 a2, .int .i64 a3, .string h, .slice ao len cap]) (t := 24) (by simp))
    go_wp2_with fail
    clear c0 c1 c2 c3 c4 c5 r0 r1 r2 r3 r4 r5 r6 r7 r8 r9 r10 r11 r12 r13 r14 r15
    refine (F8.out w5 (HS.out.below H5.out.bel rfl)).mono ?_
    rintro e w6 ⟨aoq, cpq, rfl, hq, _, hb6⟩
    have H6 := Lib.hid (H5.out.below hb6)
    have HQ := Lib.hid hq
    clear hb6 H5 F8 hq
    have hnp : (w6.alloc (.cells #[.int .i64 0, .int .i64 0, .int .i64 0, .int .i64 0, .string ⟨#[]⟩, .slice none 0 0] 24)).heap[w6.heap.size]? = some (.cells #[.int .i64 0, .int .i64 0, .int .i64 0, .int .i64 0, .string ⟨#[]⟩, .slice none 0 0] 24 (0, 0)) := heap_alloc_new w6 _
    go_upto_region 9 with (refine wpList_st_row rfl 24 _ _ rfl w6.heap.size rfl _ rfl hnp (by kernel_rfl) rfl (by simp [Value.oneCell']) (fun w7 hp7 hg7 => ?_); have H7 := Lib.hid (H6.out.fresh hg7 hp7); have HQ7 := Lib.hid (HQ.out.sub (fresh_below hg7)); clear hp7 hg7)
    clear hnp H6 HQ
    generalize w6.heap.size = bq at *
    by_cases hz : E1 = 0
    · subst hz
      have hd1 : D1 = true := HE1.out.1 rfl
      subst hd1
      have hd2 : D2 = true := HD2.out rfl
      subst hd2
      clear HE1 HD2
      have F13a := Lib.hid (fun w' hh => F13.out aoq cpq w' hh)
      have F14a := Lib.hid (fun w' hh => F14.out aoq cpq w' hh)
      clear F13 F14
      obtain ⟨r0, r1, r2, r3, r4, r5, r6, r7, r8, r9, r10, r11, r12, r13, r14, r15⟩ := rec_all (H7.out.row (b := br) (c := #[.int .i64 0, .int .i64 0, .int .i64 0, .int .u8 1, .int .i64 x, .int .i64 7, .int .i64 n, .int .i64 0, .int .i64 0, .int .i64 0, .string s, .slice none 0 0, .slice none 0 0, .slice none 0 0, .slice none 0 0, .slice none 0 0]) (t := 34) (by simp))
      obtain ⟨c0, c1, c2, c3, c4, c5⟩ := pk_cells (H7.out.row (b := bq) (c := #[.int .i64 a0, .int .i64 2, .int .i64 a2, .int .i64 a3, .string h, .slice aoq L cpq]) (t := 24) (by simp))
      obtain ⟨d0, d1, d2, d3, d4⟩ := tu_cell (H7.out.row (b := bu) (c := #[.int .i64 x, .int .i64 y, .bool f, .string k, .string v]) (t := 26) (by simp))
      go_wp2_with fail
      clear c0 c1 c2 c3 c4 c5 r0 r1 r2 r3 r4 r5 r6 r7 r8 r9 r10 r11 r12 r13 r14 r15 d0 d1 d2 d3 d4
      refine (F13a.out w7 HQ7.out).mono ?_
      rintro e w8 ⟨rfl, hb8⟩
      have H8 := Lib.hid (H7.out.below hb8)
      have HQ8 := Lib.hid (HQ7.out.sub hb8)
      clear hb8 H7 HQ7 F13a
      have hnt : (w8.alloc (.cells #[.int .i64 0, .int .i64 0, .bool false, .string ⟨#[]⟩, .string ⟨#[]⟩] 26)).heap[w8.heap.size]? = some (.cells #[.int .i64 0, .int .i64 0, .bool false, .string ⟨#[]⟩, .string ⟨#[]⟩] 26 (0, 0)) := heap_alloc_new w8 _
      go_upto_region 14 with (refine wpList_st_row rfl 26 _ _ rfl w8.heap.size rfl _ rfl hnt (by kernel_rfl) rfl (by simp [Value.oneCell']) (fun w9 hp9 hg9 => ?_); have H9 := Lib.hid (H8.out.fresh hg9 hp9); have HQ9 := Lib.hid (HQ8.out.sub (fresh_below hg9)); clear hp9 hg9)
      clear hnt H8 HQ8
      generalize w8.heap.size = bx at *
      obtain ⟨c0, c1, c2, c3, c4, c5⟩ := pk_cells (H9.out.row (b := bq) (c := #[.int .i64 a0, .int .i64 2, .int .i64 a2, .int .i64 a3, .string h, .slice aoq L cpq]) (t := 24) (by simp))
      obtain ⟨d0, d1, d2, d3, d4⟩ := tu_cell (H9.out.row (b := bu) (c := #[.int .i64 x, .int .i64 y, .bool f, .string k, .string v]) (t := 26) (by simp))
      obtain ⟨u0, u1, u2, u3, u4⟩ := tu_cell (H9.out.row (b := bx) (c := #[.int .i64 x, .int .i64 y, .bool f, .string k, .string v]) (t := 26) (by simp))
      go_wp2_with fail
      clear c0 c1 c2 c3 c4 c5 d0 d1 d2 d3 d4 u0 u1 u2 u3 u4
      refine (F14a.out w9 HQ9.out).mono ?_
      rintro e w10 ⟨rfl, hb10⟩
      have H10 := Lib.hid (H9.out.below hb10)
      have HQ10 := Lib.hid (HQ9.out.sub hb10)
      clear hb10 H9 HQ9 F14a
      obtain ⟨c0, c1, c2, c3, c4, c5⟩ := pk_cells (H10.out.row (b := bq) (c := #[.int .i64 a0, .int .i64 2, .int .i64 a2, .int .i64 a3, .string h, .slice aoq L cpq]) (t := 24) (by simp))
      obtain ⟨p0, p1, p2, p3, p4, p5⟩ := pk_cells (H10.out.row (b := bt) (c := #[.int .i64 a0, .int .i64 2, .int .i64 a2, .int .i64 a3, .string h, .slice ao len cap]) (t := 24) (by simp))
      go_wp2_with fail
      clear c0 c1 c2 c3 c4 c5 p0 p1 p2 p3 p4 p5
      go_loopw [14] (fun i wr => ∃ j : Nat, j ≤ len ∧ i = .int .i64 j ∧ Hid (Fr w wr [(br, #[.int .i64 0, .int .i64 0, .int .i64 0, .int .u8 1, .int .i64 x, .int .i64 7, .int .i64 n, .int .i64 0, .int .i64 0, .int .i64 0, .string s, .slice none 0 0, .slice none 0 0, .slice none 0 0, .slice none 0 0, .slice none 0 0], 34), (bt, #[.int .i64 a0, .int .i64 2, .int .i64 a2, .int .i64 a3, .string h, .slice ao len cap], 24), (bq, #[.int .i64 a0, .int .i64 2, .int .i64 a2, .int .i64 a3, .string h, .slice aoq L cpq], 24)] ∧ StrsIn wr aoq L T)) (fun i _ => len - (intOf i).toNat)
      case atStart => exact ⟨0, Nat.zero_le _, rfl, H10.out.sub (by intro q hq; simp at hq; rcases hq with rfl | rfl | rfl <;> simp), HQ10.out⟩
      case round =>
        obtain ⟨j, hj, rfl, HK⟩ := hrel
        clear H10 HQ10
        have H10 := Lib.hid HK.out.1
        have HQ10 := Lib.hid HK.out.2
        clear HK
        have r6 := (rec_all (H10.out.row (b := br) (c := #[.int .i64 0, .int .i64 0, .int .i64 0, .int .u8 1, .int .i64 x, .int .i64 7, .int .i64 n, .int .i64 0, .int .i64 0, .int .i64 0, .string s, .slice none 0 0, .slice none 0 0, .slice none 0 0, .slice none 0 0, .slice none 0 0]) (t := 34) (by simp))).2.2.2.2.2.2.1
        have p5 := (pk_cells (H10.out.row (b := bt) (c := #[.int .i64 a0, .int .i64 2, .int .i64 a2, .int .i64 a3, .string h, .slice ao len cap]) (t := 24) (by simp))).2.2.2.2.2
        have c5 := (pk_cells (H10.out.row (b := bq) (c := #[.int .i64 a0, .int .i64 2, .int .i64 a2, .int .i64 a3, .string h, .slice aoq L cpq]) (t := 24) (by simp))).2.2.2.2.2
        by_cases hlt : j < len
        · obtain ⟨b1, o1, rfl, hc1, _⟩ := (HS.out.below H10.out.bel rfl) j hlt
          obtain ⟨b2, o2, rfl, hc2, _⟩ := HQ10.out j (by omega)
          have hjL : j < L := by omega
          by_cases hjn : j = n
          · subst hjn
            have hdc : ((j : Int) != (j : Int)) = false := by simp
            go_upto_region 19 with (fail)
            go_quiet (fail)
            have H11 := Lib.hid (H10.out.below (below_drewN wr nq))
            have HQ11 := Lib.hid (HQ10.out.sub (below_drewN wr nq))
            clear H10 HQ10
            go_wp2_with fail
            go_roundw
            case rel => exact ⟨j + 1, by omega, by go_num, H11.out, HQ11.out⟩
            case measure => simp [intOf]; omega
          · have hdc : ((j : Int) != (n : Int)) = true := by simp; omega
            rw [HTS.out j hjn] at hc2
            generalize S j = z at *
            go_upto_region 19 with (fail)
            go_quiet (fail)
            have H11 := Lib.hid (H10.out.below (below_drewN wr nq))
            have HQ11 := Lib.hid (HQ10.out.sub (below_drewN wr nq))
            clear H10 HQ10
            go_wp2_with fail
            go_roundw
            case rel => exact ⟨j + 1, by omega, by go_num, H11.out, HQ11.out⟩
            case measure => simp [intOf]; omega
        · go_wp2_with fail
          refine (FA.out _).mono ?_
          rintro e w11 ⟨rfl, hb11⟩
          have H11 := Lib.hid (H10.out.below hb11)
          clear hb11 H10 HQ10
          go_wp2_with fail
          go_ret
          exact ⟨rfl, H11.out.bel⟩
    · clear HE1 HD2 F13 F14
      have hzb : (E1 != 0) = true := bne_iff_ne.2 hz
      go_wp2_with fail
      refine (FA.out _).mono ?_
      rintro e w9 ⟨rfl, hb9⟩
      have H9 := Lib.hid (H7.out.below hb9)
      clear hb9 H7
      go_wp2_with fail
      go_ret
      exact ⟨rfl, H9.out.bel⟩
  · rcases HIO.out hE with (rfl | rfl) | ⟨rfl, h96⟩
    all_goals
      clear HREC HZ HIZ HIO
      go_wp2_with fail
      refine (FA.out _).mono ?_
      rintro e w9 ⟨rfl, hb9⟩
      have H9 := Lib.hid (H4.out.below hb9)
      clear hb9 H4
      go_wp2_with fail
      go_ret
      exact ⟨rfl, H9.out.bel⟩
end Go.Proofs.Ytkjnjccjkjachaa
