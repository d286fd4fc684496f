/- Statuses: how the reference lays a page. -/
import Derived.Test.YtpmhcpphbilokaaClogI
namespace Go.Proofs.Ytpmhcpphbilokaa
open Go.RowKit
set_option linter.unusedSimpArgs false
set_option maxRecDepth 100000

/-- The first i statuses. -/
def lowF (f : Nat → Nat) (i : Nat) : Nat → Nat := fun j => if j < i then f j else 0
theorem lowF_le {f : Nat → Nat} (h : ∀ i, f i ≤ 3) (i j : Nat) : lowF f i j ≤ 3 := by unfold lowF; split <;> first | exact h j | omega
theorem lowF_next (f : Nat → Nat) (i : Nat) : lowF f (i + 1) = upd (lowF f i) i (f i) := by
  funext j
  unfold lowF upd
  by_cases h1 : j = i
  · subst h1; simp
  · rw [if_neg h1]
    show _ = if j < i then f j else 0
    by_cases h2 : j < i
    · rw [if_pos h2, if_pos (by omega)]
    · rw [if_neg h2, if_neg (by omega)]
theorem lowF_all {f : Nat → Nat} {n : Nat} (h : okf f n) : lowF f n = f := by
  funext j
  unfold lowF
  split
  · rfl
  · exact (h.out j (by omega)).symm
theorem byte_add {g : Nat → Nat} (h : ∀ i, g i ≤ 3) (i s : Nat) (hg : g i = 0) (hs : s ≤ 3) : byteF (upd g i s) (i / 4) = byteF g (i / 4) + s * 4 ^ (i % 4) ∧ byteF g (i / 4) + s * 4 ^ (i % 4) < 256 := by
  have h1 := byteF_lt (upd_le h hs i) (i / 4)
  have e : byteF (upd g i s) (i / 4) = byteF g (i / 4) + s * 4 ^ (i % 4) := by
    rw [putN_byte h hs]
    unfold putN
    have hz : byteF g (i / 4) / 4 ^ (i % 4) % 4 = 0 := by
      have h2 := st_bsOf h (i / 4 + 1) i (by omega)
      unfold stOf at h2
      have hj : i / 4 < (bsOf g (i / 4 + 1)).length := by rw [bsOf_len]; omega
      rw [List.getD_eq_getElem?_getD, List.getElem?_eq_getElem hj, Option.getD_some, bsOf_nat h] at h2
      omega
    rw [hz]; omega
  omega
theorem rnum1_k (x : Int) (w0 w : World) (hw : w = w0.alloc (.cells #[.int .i64 x] 3)) (hx : x ≤ 9223372036854775807) :
    Calls Try.prog 48 #[.slice (some ⟨w0.heap.size, 0, none⟩) 1 1] w fun e w' => e = .returned (.string ⟨(sev x.toNat).toArray⟩) ∧ Below w0.heap.size w0 w' := by
  subst hw
  refine (rnum_c [x] (some ⟨w0.heap.size, 0, none⟩) 1 _ ?_ ?_ (by simp)).mono ?_
  · intro z hz; simp at hz; omega
  · intro j z hj
    match j, hj with
    | 0, hj => simp at hj; subst hj; exact ⟨_, rfl, by simp [Addr.add]⟩
    | (j + 1), hj => simp at hj
  · rintro e w1 ⟨rfl, hb⟩
    exact ⟨by rw [sevs_one], ((Below.refl _ w0).alloc (Nat.le_refl _) _).trans (hb.mono (by simp))⟩
/-- While the reference lays a page. -/
structure LaS (W wx : World) (br g : Nat) (l : List UInt8) : Prop where
  pg : IsPg wx br
  bv : BV wx g l
  bel : Below W.heap.size W wx
  n0 : W.heap.size ≤ br
  n1 : br < g
theorem LaS.below {W wx w' : World} {br g : Nat} {l : List UInt8} (H : LaS W wx br g l) (hb : Below wx.heap.size wx w') : LaS W w' br g l :=
  ⟨H.pg.grown (grown_of hb) (by simp), H.bv.below hb, H.bel.trans (hb.mono H.bel.size), H.n0, H.n1⟩
theorem LaS.st {W wx : World} {br g : Nat} {l : List UInt8} (H : LaS W wx br g l) (c0 c1 c2 c3 : Int) (k : ByteArray) (u : Value) : LaS W (setP wx br c0 c1 c2 c3 k u) br g l :=
  ⟨(H.pg.set6 _ _ _ _ _ _).is, H.bv.grown (setP_grown _ _ _ _ _ _ _ _) (by have := H.n1; simp; omega), below_own H.bel H.n0 (setP_grown _ _ _ _ _ _ _ _), H.n0, H.n1⟩
/-- Statuses lie in memory. -/
def StIn (w : World) (ao : Option Addr) (n : Nat) (f : Nat → Nat) : Prop := ∀ i, i < n → ∃ b, ao = some ⟨b, 0, none⟩ ∧ w.cell? ⟨b, i, none⟩ = some (.int .u8 (f i))

set_option maxHeartbeats 4000000 in
theorem laid_c (m x lsn : Int) (ao : Option Addr) (n cap : Nat) (f : Nat → Nat) (w : World) (hm : okm m = true) (hx : x ≤ 9223372036854775807) (hf : okf f n) (hn : n ≤ 4 * sz m) (hl : StIn w ao n f) :
    Calls Try.prog 29 #[.int .i64 m, .int .i64 x, .slice ao n cap, .int .i64 lsn] w fun e w' => (∃ q, e = .returned (pgV lsn q) ∧ PgIn w' q x (bsOf f (sz m)) ∧ w.heap.size ≤ q) ∧ Below w.heap.size w w' := by
  obtain ⟨s, hs⟩ : ∃ s, s = sz m := ⟨_, rfl⟩
  have hsz := sz_int hm
  have hmb := okm_bd hm
  rw [← hs] at hsz hn ⊢
  have hz : (m + 3) / 4 = (s : Int) := hsz.1.symm
  have hs2 : 4 ≤ s ∧ s ≤ 256 := hsz.2
  have HL := Lib.hid hl
  have HF := Lib.hid hf
  clear hl hf hsz hs
  obtain ⟨wb, hwb⟩ : ∃ wb, wb = w.alloc (.cells #[.int .i64 0, .int .i64 0, .int .i64 0, .int .i64 0, .string ⟨#[]⟩, .slice none 0 0] 25) := ⟨_, rfl⟩
  obtain ⟨br, hbr⟩ : ∃ br, br = w.heap.size := ⟨_, rfl⟩
  have HRB : Hid (IsPg wb br) := by rw [hwb, hbr]; exact (PK.new w 0 0 0 0 _ _).is
  have HB : Hid (Below w.heap.size w wb) := by rw [hwb]; exact (Below.refl _ w).alloc (Nat.le_refl _) _
  have HN : Hid (w.heap.size ≤ br) := by rw [hbr]; exact Nat.le_refl _
  have HWB := Lib.hid hwb
  have HBR := Lib.hid hbr
  clear hwb hbr
  have hmk := run_make_row' (P := Try.prog) 55 5 (.int .u8 0) 1 Try.underlying55 Try.info_u8 rfl .i64 .i64 s (by omega) (by omega)
  go_enter Try.func29, Try.ntmps29
  go_wp2_with fail
  clear hmk
  rw [← HWB.out]
  have e1 : w.heap.size + 1 = wb.heap.size := by rw [HWB.out]; simp
  rw [e1, ← HBR.out]
  have H0 : Hid (LaS w (wb.alloc (.cells (madeCells #[.int .u8 0] s) 5)) br wb.heap.size (bsOf (lowF f 0) s)) := by
    have e2 : lowF f 0 = fun _ => 0 := by funext j; unfold lowF; rw [if_neg (by omega)]
    rw [e2]
    exact ⟨HRB.out.grown (grown_alloc _ _ none) (by simp), zero_new wb s _, HB.out.alloc HB.out.size _, HN.out, HRB.out.lt⟩
  clear e1 HRB HB HN HWB HBR
  generalize wb.alloc (.cells (madeCells #[.int .u8 0] s) 5) = w0 at *
  generalize wb.heap.size = g at *
  go_loopw [10] (fun i wr => ∃ k : Nat, k ≤ n ∧ i = .int .i64 k ∧ Hid (LaS w wr br g (bsOf (lowF f k) s))) (fun i _ => n - (intOf i).toNat)
  case atStart => exact ⟨0, Nat.zero_le _, rfl, H0.out⟩
  case round =>
    obtain ⟨i, hi, rfl, HI⟩ := hrel
    by_cases hlt : i < n
    · obtain ⟨b, rfl, hc⟩ := HL.out i hlt
      have hc2 := bel_at HI.out.bel hc
      have HADD := Lib.hid (byte_add (lowF_le HF.out.le i) i (f i) (by unfold lowF; rw [if_neg (by omega)]) (HF.out.le i))
      have HSET : Hid (bsOf (lowF f (i + 1)) s = (bsOf (lowF f i) s).set (i / 4) (UInt8.ofNat (byteF (lowF f i) (i / 4) + f i * 4 ^ (i % 4)))) := by
        unfold Hid
        rw [lowF_next, bsOf_upd (lowF_le HF.out.le i) (HF.out.le i), ← putN_byte (lowF_le HF.out.le i) (HF.out.le i), (byte_add (lowF_le HF.out.le i) i (f i) (by unfold lowF; rw [if_neg (by omega)]) (HF.out.le i)).1]
      have hfi := HF.out.le i
      have hq : i / 4 < (bsOf (lowF f i) s).length := by rw [bsOf_len]; omega
      have hbq := HI.out.bv.cell (i / 4) hq
      have hfq := HI.out.bv.fr (i / 4) hq
      rw [bsOf_nat (lowF_le HF.out.le i)] at hbq
      generalize f i = v at *
      generalize byteF (lowF f i) (i / 4) = c at *
      have hqs : i / 4 < s := by omega
      have hk4 : i % 4 < 4 := by omega
      have hq4 : (i : Int) / 4 = ((i / 4 : Nat) : Int) := rfl
      have hr4 : (i : Int) % 4 = ((i % 4 : Nat) : Int) := by omega
      have hi1024 : i ≤ 1024 := by omega
      generalize i / 4 = q at *
      generalize i % 4 = r at *
      clear hc hq
      go_wp2_with fail
      go_loopw [11, 12] (fun a j wi => ∃ k : Nat, k ≤ r ∧ j = .int .i64 k ∧ a = .int .i64 (v * 4 ^ k : Nat) ∧ Hid (wr = wi)) (fun _ j _ => r - (intOf j).toNat)
      case atStart => exact ⟨0, Nat.zero_le _, rfl, by simp, rfl⟩
      case round =>
        obtain ⟨k, hk, rfl, rfl, HW⟩ := hrel
        obtain rfl := HW.out
        have hp : v * 4 ^ k ≤ 192 := by
          have : k ≤ 3 := by omega
          rcases (by omega : k = 0 ∨ k = 1 ∨ k = 2 ∨ k = 3) with rfl | rfl | rfl | rfl <;> simp only [Nat.reducePow] <;> omega
        by_cases hkr : k < r
        · have hpp : v * 4 ^ (k + 1) = 4 * (v * 4 ^ k) := by rw [Nat.pow_succ, ← Nat.mul_assoc, Nat.mul_comm]
          have HPP := Lib.hid hpp
          clear hpp
          generalize v * 4 ^ k = y at *
          go_wp2_with fail
          go_roundw
          case rel => exact ⟨k + 1, by omega, by go_num, by rw [HPP.out]; exact congrArg (Value.int .i64) (by omega), by first | exact Lib.hid rfl | exact Lib.hid trivial⟩
          case measure => simp [intOf]; omega
        · have e : k = r := by omega
          subst e
          have hy256 : v * 4 ^ k < 256 := by omega
          have HAD2 := Lib.hid (HADD.out.2)
          generalize v * 4 ^ k = y at *
          have hcy : c + y < 256 := HAD2.out
          clear hp hkr
          go_wp2_with fail
          go_roundw
          case rel =>
            refine ⟨i + 1, by omega, by go_num, ?_⟩
            have hg1 := grown_set wr g q (.int .u8 ((c : Int) + (y : Int)))
            have h1 := HI.out.n1
            have h0 := HI.out.n0
            have e3 : ((c : Int) + (y : Int)) = ((UInt8.ofNat (c + y)).toNat : Int) := by
              have : (UInt8.ofNat (c + y)).toNat = c + y := by show (c + y) % 256 = c + y; omega
              rw [this]; omega
            unfold Hid
            rw [HSET.out]
            exact ⟨HI.out.pg.grown hg1 (by simp; omega), HI.out.bv.set q _ _ e3 (by rw [bsOf_len]; omega), below_own HI.out.bel (by omega) hg1, h0, h1⟩
          case measure => simp [intOf]; omega
    · have e : i = n := by omega
      subst e
      rw [lowF_all HF.out] at HI
      go_upto_region 11 with (fail)
      have HLN : Hid ((bsOf f s).length = s) := bsOf_len _ _
      clear hlt hi hn hz hs2 HL H0 hm hmb HF
      have HR : Hid (∀ w', BV w' g (bsOf f s) → (convert 55 9 (.slice (some ⟨g, 0, none⟩) s s)).run Try.prog w' = .ok (.string ⟨(bsOf f s).toArray⟩) w') := fun w' hb =>
        run_string_cells (P := Try.prog) _ 55 9 5 Try.underlying55 Try.underlying5 Try.underlying9 g s s (bsOf f s) HLN.out hb.cell
      have HX := Lib.hid hx
      have HID : Hid (LaS w wr.drew br g (bsOf f s)) := HI.out.below (by exact (Below.refl _ _).drew)
      clear hx
      refine wp_region_held_drew (S := fun w' => LaS w w' br g (bsOf f s)) (by kernel_rfl) HID.out (fun hHeld => ?_)
      refine take_op (i := 0) (d := some 48) (v := ?_) rfl rfl (by kernel_rfl) (by kernel_rfl) (by kernel_rfl) (fun _ _ _ h => h) (Or.inl ⟨by rfl, ?_⟩) (by assumption) ?_
      rotate_left
      · (intro w' hSw; (try dsimp only at hSw); go_simp; try (with_reducible rfl))
      try simp only [Act.put, List.setIfInBounds_toArray, List.set_cons_zero, List.set_cons_succ]
      refine take_op (i := 1) (d := some 49) (v := ?_) rfl rfl (by kernel_rfl) (by kernel_rfl) (by kernel_rfl) (fun _ _ _ h => h) (Or.inl ⟨by rfl, ?_⟩) (by assumption) ?_
      rotate_left
      · (intro w' hSw; (try dsimp only at hSw); go_simp; try (with_reducible rfl))
      try simp only [Act.put, List.setIfInBounds_toArray, List.set_cons_zero, List.set_cons_succ]
      refine take_op (i := 4) (d := some 52) (v := ?_) rfl rfl (by kernel_rfl) (by kernel_rfl) (by kernel_rfl) (fun _ _ _ h => h) (Or.inl ⟨by rfl, ?_⟩) (by assumption) ?_
      rotate_left
      · (intro w' hSw; (try dsimp only at hSw); go_simp; try (with_reducible rfl))
      try simp only [Act.put, List.setIfInBounds_toArray, List.set_cons_zero, List.set_cons_succ]
      refine wpAnyH_ready (rs := [2, 5]) (by kernel_rfl) (by simp) ?_
      refine AllReadyH.cons rfl (fun K hK => ?_) (AllReadyH.cons rfl (fun K hK => ?_) AllReadyH.nil)
      rotate_left
      · have hq := HR.out _ hHeld.bv
        go_simp
        refine hK.out _ _ hHeld (fun hHeld => ?_)
        clear hq
        clear hK K
        try simp only [Act.put, List.setIfInBounds_toArray, List.set_cons_zero, List.set_cons_succ]
        refine wpAnyH_ready (rs := [2]) (by kernel_rfl) (by simp) ?_
        refine AllReadyH.cons rfl (fun K hK => ?_) AllReadyH.nil
        go_simp
        refine hK.out _ _ (hHeld.below ((Below.refl _ _).alloc (Nat.le_refl _) _)) (fun hHeld => ?_)
        clear hK K
        try simp only [Act.put, List.setIfInBounds_toArray, List.set_cons_zero, List.set_cons_succ]
        refine wpAnyH_ready (rs := [3]) (by kernel_rfl) (by simp) ?_
        refine AllReadyH.cons rfl (fun K hK => ?_) AllReadyH.nil
        go_simp
        refine (rnum1_k x wr.drew _ rfl HX.out).mono ?_
        rintro e w5 ⟨rfl, hb5⟩
        have HL5 := Lib.hid (HID.out.below hb5)
        refine hK.out _ _ HL5.out (fun hHeld => ?_)
        clear hb5
        clear hK K
        try simp only [Act.put, List.setIfInBounds_toArray, List.set_cons_zero, List.set_cons_succ]
        refine wpAnyH_ready (rs := [6]) (by kernel_rfl) (by simp) ?_
        refine AllReadyH.cons rfl (fun K hK => ?_) AllReadyH.nil
        go_simp
        have hb7 := HL5.out.below ((Below.refl _ w5).alloc (Nat.le_refl _) (.cells #[.string { data := (sev x.toNat).toArray }, .string { data := (bsOf f s).toArray }] 9))
        refine hK.out _ _ hb7 (fun hHeld => ?_)
        clear hK K
        try simp only [Act.put, List.setIfInBounds_toArray, List.set_cons_zero, List.set_cons_succ]
        refine wpAnyH_ready (rs := [7]) (by kernel_rfl) (by simp) ?_
        refine AllReadyH.cons rfl (fun K hK => ?_) AllReadyH.nil
        go_simp
        refine hK.out _ _ hHeld (fun hHeld => ?_)
        clear hK K
        try simp only [Act.put, List.setIfInBounds_toArray, List.set_cons_zero, List.set_cons_succ]
        refine wpAnyH_ready (rs := [8]) (by kernel_rfl) (by simp) ?_
        refine AllReadyH.cons rfl (fun K hK => ?_) AllReadyH.nil
        rw [if_pos (by rfl)]
        refine wp_st_page _ _ rfl br rfl _ _ _ _ _ _ rfl rfl hb7.pg ?_
        try simp only [Act.put, List.setIfInBounds_toArray, List.set_cons_zero, List.set_cons_succ]
        have hb8 := hb7.st lsn 1 0 0 ⟨#[]⟩ (.slice (some ⟨w5.heap.size, 0, none⟩) 2 2)
        refine hK.out _ _ hb8 (fun hHeld => ?_)
        clear hK K
        try simp only [Act.put, List.setIfInBounds_toArray, List.set_cons_zero, List.set_cons_succ]
        refine wpAnyH_done (by kernel_rfl) ?_ _
        go_wp2_with fail
        refine ret_cell1 rfl br _ _ _ _ rfl (hb7.pg.set6 _ _ _ _ _ _) Try.underlying25 rfl (by kernel_rfl) rfl ?_
        have hne : some w5.heap.size ≠ some br := by have := HL5.out.pg.lt; intro e; injection e with e; omega
        exact ⟨⟨_, rfl, (pgIn_new w5 x (bsOf f s)).grown (setP_grown _ _ _ _ _ _ _ _) hne, HL5.out.bel.size⟩, hb8.bel⟩
      · go_simp
        refine hK.out _ _ (hHeld.below ((Below.refl _ _).alloc (Nat.le_refl _) _)) (fun hHeld => ?_)
        clear hK K
        try simp only [Act.put, List.setIfInBounds_toArray, List.set_cons_zero, List.set_cons_succ]
        refine wpAnyH_ready (rs := [3, 5]) (by kernel_rfl) (by simp) ?_
        refine AllReadyH.cons rfl (fun K hK => ?_) (AllReadyH.cons rfl (fun K hK => ?_) AllReadyH.nil)
        · go_simp
          refine (rnum1_k x wr.drew _ rfl HX.out).mono ?_
          rintro e w5 ⟨rfl, hb5⟩
          have HL5 := Lib.hid (HID.out.below hb5)
          refine hK.out _ _ HL5.out (fun hHeld => ?_)
          clear hb5
          clear hK K
          try simp only [Act.put, List.setIfInBounds_toArray, List.set_cons_zero, List.set_cons_succ]
          refine wpAnyH_ready (rs := [5]) (by kernel_rfl) (by simp) ?_
          refine AllReadyH.cons rfl (fun K hK => ?_) AllReadyH.nil
          have hq := HR.out _ hHeld.bv
          go_simp
          refine hK.out _ _ hHeld (fun hHeld => ?_)
          clear hq
          clear hK K
          try simp only [Act.put, List.setIfInBounds_toArray, List.set_cons_zero, List.set_cons_succ]
          refine wpAnyH_ready (rs := [6]) (by kernel_rfl) (by simp) ?_
          refine AllReadyH.cons rfl (fun K hK => ?_) AllReadyH.nil
          go_simp
          have hb7 := HL5.out.below ((Below.refl _ w5).alloc (Nat.le_refl _) (.cells #[.string { data := (sev x.toNat).toArray }, .string { data := (bsOf f s).toArray }] 9))
          refine hK.out _ _ hb7 (fun hHeld => ?_)
          clear hK K
          try simp only [Act.put, List.setIfInBounds_toArray, List.set_cons_zero, List.set_cons_succ]
          refine wpAnyH_ready (rs := [7]) (by kernel_rfl) (by simp) ?_
          refine AllReadyH.cons rfl (fun K hK => ?_) AllReadyH.nil
          go_simp
          refine hK.out _ _ hHeld (fun hHeld => ?_)
          clear hK K
          try simp only [Act.put, List.setIfInBounds_toArray, List.set_cons_zero, List.set_cons_succ]
          refine wpAnyH_ready (rs := [8]) (by kernel_rfl) (by simp) ?_
          refine AllReadyH.cons rfl (fun K hK => ?_) AllReadyH.nil
          rw [if_pos (by rfl)]
          refine wp_st_page _ _ rfl br rfl _ _ _ _ _ _ rfl rfl hb7.pg ?_
          try simp only [Act.put, List.setIfInBounds_toArray, List.set_cons_zero, List.set_cons_succ]
          have hb8 := hb7.st lsn 1 0 0 ⟨#[]⟩ (.slice (some ⟨w5.heap.size, 0, none⟩) 2 2)
          refine hK.out _ _ hb8 (fun hHeld => ?_)
          clear hK K
          try simp only [Act.put, List.setIfInBounds_toArray, List.set_cons_zero, List.set_cons_succ]
          refine wpAnyH_done (by kernel_rfl) ?_ _
          go_wp2_with fail
          refine ret_cell1 rfl br _ _ _ _ rfl (hb7.pg.set6 _ _ _ _ _ _) Try.underlying25 rfl (by kernel_rfl) rfl ?_
          have hne : some w5.heap.size ≠ some br := by have := HL5.out.pg.lt; intro e; injection e with e; omega
          exact ⟨⟨_, rfl, (pgIn_new w5 x (bsOf f s)).grown (setP_grown _ _ _ _ _ _ _ _) hne, HL5.out.bel.size⟩, hb8.bel⟩
        · have hq := HR.out _ hHeld.bv
          go_simp
          refine hK.out _ _ hHeld (fun hHeld => ?_)
          clear hq
          clear hK K
          try simp only [Act.put, List.setIfInBounds_toArray, List.set_cons_zero, List.set_cons_succ]
          refine wpAnyH_ready (rs := [3]) (by kernel_rfl) (by simp) ?_
          refine AllReadyH.cons rfl (fun K hK => ?_) AllReadyH.nil
          go_simp
          refine (rnum1_k x wr.drew _ rfl HX.out).mono ?_
          rintro e w5 ⟨rfl, hb5⟩
          have HL5 := Lib.hid (HID.out.below hb5)
          refine hK.out _ _ HL5.out (fun hHeld => ?_)
          clear hb5
          clear hK K
          try simp only [Act.put, List.setIfInBounds_toArray, List.set_cons_zero, List.set_cons_succ]
          refine wpAnyH_ready (rs := [6]) (by kernel_rfl) (by simp) ?_
          refine AllReadyH.cons rfl (fun K hK => ?_) AllReadyH.nil
          go_simp
          have hb7 := HL5.out.below ((Below.refl _ w5).alloc (Nat.le_refl _) (.cells #[.string { data := (sev x.toNat).toArray }, .string { data := (bsOf f s).toArray }] 9))
          refine hK.out _ _ hb7 (fun hHeld => ?_)
          clear hK K
          try simp only [Act.put, List.setIfInBounds_toArray, List.set_cons_zero, List.set_cons_succ]
          refine wpAnyH_ready (rs := [7]) (by kernel_rfl) (by simp) ?_
          refine AllReadyH.cons rfl (fun K hK => ?_) AllReadyH.nil
          go_simp
          refine hK.out _ _ hHeld (fun hHeld => ?_)
          clear hK K
          try simp only [Act.put, List.setIfInBounds_toArray, List.set_cons_zero, List.set_cons_succ]
          refine wpAnyH_ready (rs := [8]) (by kernel_rfl) (by simp) ?_
          refine AllReadyH.cons rfl (fun K hK => ?_) AllReadyH.nil
          rw [if_pos (by rfl)]
          refine wp_st_page _ _ rfl br rfl _ _ _ _ _ _ rfl rfl hb7.pg ?_
          try simp only [Act.put, List.setIfInBounds_toArray, List.set_cons_zero, List.set_cons_succ]
          have hb8 := hb7.st lsn 1 0 0 ⟨#[]⟩ (.slice (some ⟨w5.heap.size, 0, none⟩) 2 2)
          refine hK.out _ _ hb8 (fun hHeld => ?_)
          clear hK K
          try simp only [Act.put, List.setIfInBounds_toArray, List.set_cons_zero, List.set_cons_succ]
          refine wpAnyH_done (by kernel_rfl) ?_ _
          go_wp2_with fail
          refine ret_cell1 rfl br _ _ _ _ rfl (hb7.pg.set6 _ _ _ _ _ _) Try.underlying25 rfl (by kernel_rfl) rfl ?_
          have hne : some w5.heap.size ≠ some br := by have := HL5.out.pg.lt; intro e; injection e with e; omega
          exact ⟨⟨_, rfl, (pgIn_new w5 x (bsOf f s)).grown (setP_grown _ _ _ _ _ _ _ _) hne, HL5.out.bel.size⟩, hb8.bel⟩
end Go.Proofs.Ytpmhcpphbilokaa
