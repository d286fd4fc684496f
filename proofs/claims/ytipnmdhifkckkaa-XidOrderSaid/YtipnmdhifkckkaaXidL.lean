/- The walk of the law XidOrder. -/
import Derived.Test.YtipnmdhifkckkaaXidK
import Derived.Test.YtipnmdhifkckkaaLive
namespace Go.Proofs.Ytipnmdhifkckkaa
open Go.RowKit
set_option linter.unusedSimpArgs false

/-- The ids from f on, so many. -/
def idl (m f : Int) (L : Nat) : List Int := (List.range L).map fun (j : Nat) => xadd m f j

theorem idl_len (m f : Int) (L : Nat) : (idl m f L).length = L := by simp [idl]
theorem idl_get (m f : Int) (L j : Nat) (h : j < L) : (idl m f L).getD j 0 = xadd m f j := by simp [idl, List.getD, h]
theorem idl_snoc (m f : Int) (L : Nat) : idl m f L ++ [xadd m f L] = idl m f (L + 1) := by simp [idl, List.range_succ]
theorem xadd_add {m x : Int} (i j : Int) (hm : okm m = true) (hx : okx m x = true) : xadd m (xadd m x i) j = xadd m x (i + j) := by
  rw [xadd_val hm (xadd_ok hm hx), xadd_val hm hx, xadd_val hm hx]
  rw [show (x - 1 + i) % m + 1 - 1 + j = (x - 1 + i) % m + j from by omega, Int.emod_add_emod]
  congr 2; omega
theorem idl_drop {m f : Int} (L n : Nat) (hm : okm m = true) (hf : okx m f = true) : (idl m f L).drop n = idl m (xadd m f n) (L - n) := by
  apply List.ext_getElem
  · simp [idl]
  · intro j h1 h2
    simp only [idl, List.getElem_drop, List.getElem_map, List.getElem_range]
    rw [xadd_add _ _ hm hf]
    congr 1

/-- The counter, and the ids that live. -/
structure Ord (W wr : World) (b1 B : Nat) (m n f : Int) (L : Nat) (v : Value) (e : TypeId) : Prop where
  c : Ctr wr b1 m n f
  live : Live wr B e v (idl m f L)
  bel : Below W.heap.size W wr
  h1 : W.heap.size ≤ b1
  h2 : b1 < B
  h3 : B ≤ wr.heap.size

theorem Ord.below {W wr w' : World} {b1 B : Nat} {m n f : Int} {L : Nat} {v : Value} {e : TypeId} (h : Ord W wr b1 B m n f L v e) (hb : Below wr.heap.size wr w') : Ord W w' b1 B m n f L v e :=
  ⟨h.c.below hb, h.live.below hb, h.bel.trans (hb.mono h.bel.size), h.h1, h.h2, Nat.le_trans h.h3 hb.size⟩
theorem Ord.setC {W wr w' : World} {b1 B : Nat} {m n f n' : Int} {L : Nat} {v : Value} {e : TypeId} (h : Ord W wr b1 B m n f L v e) (hg : wr.grownBy w' (some b1)) (hc : Ctr w' b1 m n' f) : Ord W w' b1 B m n' f L v e :=
  ⟨hc, h.live.kept hg (fun r hr => by cases hr; exact h.h2), h.bel.grown hg h.bel.size (by rintro j hj; cases hj; exact h.h1), h.h1, h.h2, Nat.le_trans h.h3 hg.size⟩

theorem Ord.app {W wr w' : World} {b1 B : Nat} {m n f : Int} {L L' : Nat} {f' : Int} {v v' : Value} {e : TypeId} (h : Ord W wr b1 B m n f L v e) (hb : Below B wr w') (hl : Live w' B e v' (idl m f' L')) (hf : f' = f) : Ord W w' b1 B m n f' L' v' e := by
  subst hf
  have h2 := h.h2
  have h1 := h.h1
  exact ⟨⟨(hb.cell (p := ⟨b1, 0, none⟩) h2).trans h.c.c0, (hb.cell (p := ⟨b1, 1, none⟩) h2).trans h.c.c1, (hb.cell (p := ⟨b1, 2, none⟩) h2).trans h.c.c2, fun o => (hb.frozen (p := ⟨b1, o, none⟩) h2).trans (h.c.fr o), Nat.lt_of_lt_of_le h.c.lt hb.size⟩,
    hl, h.bel.trans (hb.mono (by omega)), h1, h2, Nat.le_trans h.h3 hb.size⟩

/-- The numbers hang together: so many ids live as lead from the limit to the next id. -/
def OrdN (m n f : Int) (L : Nat) : Prop := OkC m n f ∧ n = xadd m f L ∧ xgap m f n = L

theorem ordn_start {m n : Int} (hm : okm m = true) (hn : okx m n = true) : OrdN m n n 0 := by
  obtain ⟨b1, b2, _⟩ := okm_bd hm
  refine ⟨?_, ?_, ?_⟩
  · unfold OkC okn; rw [hn, hm, xgap_self hm hn]; simp; omega
  · rw [show ((0 : Nat) : Int) = 0 from rfl, xadd_zero hm hn]
  · rw [xgap_self hm hn]; rfl
theorem ordn_take {m n f : Int} {L : Nat} (h : OrdN m n f L) (hl : 0 < xleft m n f) : OrdN m (xadd m n 1) f (L + 1) := by
  obtain ⟨h1, h2, h3⟩ := h
  obtain ⟨k1, k2, k3, k4⟩ := okn_bd h1
  obtain ⟨b1, b2, _⟩ := okm_bd k3
  have ht := okc_take h1
  unfold tkn at ht
  rw [if_pos hl] at ht
  unfold xleft at hl
  refine ⟨ht, ?_, ?_⟩
  · rw [h2, xadd_add _ _ k3 k2]; congr 1
  · rw [xgap_next k3 k2 k1 (by omega) (by omega), h3]; omega
theorem ordn_freeze {m n f : Int} {L k : Nat} (h : OrdN m n f L) (hk : k ≤ L) : okf m n f (xadd m f k) = true ∧ OrdN m n (xadd m f k) (L - k) := by
  obtain ⟨h1, h2, h3⟩ := h
  obtain ⟨k1, k2, k3, k4⟩ := okn_bd h1
  obtain ⟨b1, b2, _⟩ := okm_bd k3
  have hg : xgap m f (xadd m f k) = k := by
    rw [xgap_add k3 k2, Int.emod_eq_of_lt (by omega) (by omega)]
  have hof : okf m n f (xadd m f k) = true := by
    unfold okf; rw [xadd_ok k3 k2, hg, h3]; simp; omega
  have hc := okc_freeze (l := xadd m f k) h1
  unfold fzf at hc
  rw [if_pos hof] at hc
  refine ⟨hof, hc, ?_, ?_⟩
  · rw [xadd_add _ _ k3 k2, h2]; congr 1; omega
  · rw [xgap_split k3 k1 k2 (xadd_ok k3 k2) (by rw [hg, h3]; omega), hg, h3]; omega
theorem ordn_left {m n f : Int} {L : Nat} (h : OrdN m n f L) : xleft m n f = m / 2 - 2 - L := by
  obtain ⟨h1, h2, h3⟩ := h
  unfold xleft; rw [h3]
/-- Each living id is ahead of the next one, and not the other way round. -/
theorem ordn_bef {m n f : Int} {L j : Nat} (h : OrdN m n f L) (hj : j < L) : (xadd m f j == n) = false ∧ xbef m (xadd m f j) n = true ∧ xbef m n (xadd m f j) = false := by
  obtain ⟨h1, h2, h3⟩ := h
  obtain ⟨k1, k2, k3, k4⟩ := okn_bd h1
  obtain ⟨b1, b2, b3⟩ := okm_bd k3
  have ha := xadd_ok (n := j) k3 k2
  have hg : xgap m (xadd m f j) n = (L - j : Int) := by
    have e : n = xadd m (xadd m f j) (L - j) := by rw [xadd_add _ _ k3 k2, h2]; congr 1; omega
    rw [e, xgap_add k3 ha, Int.emod_eq_of_lt (by omega) (by omega)]
  have hbt : xbef m (xadd m f j) n = true := by unfold xbef; rw [hg]; simp; omega
  refine ⟨?_, hbt, xbef_asym k3 ha k1 hbt⟩
  rw [beq_eq_false_iff_ne]
  intro e
  rw [e, xgap_self k3 k1] at hg
  omega

theorem Try.info_int : (Try.prog.info? 3).map (fun i => (i.zero, i.size, i.bytes)) = some (some (.int .i64 0), 1, 8) := by kernel_rfl

set_option maxHeartbeats 1000000 in
theorem xidOrder_bad (m n : Int) (sl : Value) (w : World) (h : okn m n n = false) :
    Calls Try.prog 5 #[.int .i64 m, .int .i64 n, sl] w fun e w' => e = .returned (.bool true) ∧ Below w.heap.size w w' := by
  go_enter Try.func5, Try.ntmps5
  go_wp2_with fail
  refine (new_no m n n _ h).mono ?_
  rintro e w1 ⟨rfl, hb1⟩
  go_wp2_with fail
  refine (awake_c _).mono ?_
  rintro e w3 ⟨rfl, hb3⟩
  go_wp2_with fail
  go_ret
  exact ⟨rfl, hb1.trans (hb3.mono hb1.size)⟩

set_option maxRecDepth 100000 in
set_option maxHeartbeats 4000000 in
theorem xidOrder_good (m n : Int) (ao : Option Addr) (len cap : Nat) (A N : Nat → Int) (w : World) (hlen : len ≤ 9223372036854775807) (h : okn m n n = true) (hops : OpsIn w ao len A N) :
    Calls Try.prog 5 #[.int .i64 m, .int .i64 n, .slice ao len cap] w fun e w' => e = .returned (.bool true) ∧ Below w.heap.size w w' := by
  have HOPS := Lib.hid hops
  have HN := Lib.hid h
  have HM := Lib.hid (okn_bd h).2.2.1
  have HX := Lib.hid (okn_bd h).1
  obtain ⟨b1, b2, _⟩ := okm_bd HM.out
  obtain ⟨i0, hi, hz0, hz1, hz2⟩ := info_parts Try.info_int
  have HI := Lib.hid hi
  have HZ0 := Lib.hid hz0
  have HZ1 := Lib.hid hz1
  have HZ2 := Lib.hid hz2
  clear h hops hi hz0 hz1 hz2
  go_enter Try.func5, Try.ntmps5
  go_wp2_with fail
  refine (new_yes m n n _ HN.out).mono ?_
  rintro e w1 ⟨b, hb, rfl, hc1, hb1⟩
  have HS : Hid (Ord w w1 b w1.heap.size m n n 0 (.slice none 0 0) 3) := ⟨hc1, .inl ⟨rfl, rfl⟩, hb1, hb, hc1.lt, Nat.le_refl _⟩
  clear hb hc1 hb1
  generalize hB : w1.heap.size = B at HS
  clear hB
  go_wp2_with fail
  go_loopw [9, 10] (fun v i wr => ∃ k : Nat, k ≤ len ∧ i = .int .i64 k ∧ Hid (∃ n' f' L, Ord w wr b B m n' f' L v 3 ∧ OrdN m n' f' L)) (fun _ i _ => len - (intOf i).toNat)
  case atStart => exact ⟨0, Nat.zero_le _, rfl, ⟨n, n, 0, HS.out, ordn_start HM.out HX.out⟩⟩
  case round =>
    obtain ⟨k, hk, rfl, HR⟩ := hrel
    obtain ⟨n', f', L, hS, hO⟩ := HR.out
    have HS' := Lib.hid hS
    have HO := Lib.hid hO
    clear hS hO HR HS
    obtain ⟨wo, rfl⟩ : ∃ wo : World, wo = wr := ⟨_, rfl⟩
    obtain ⟨ga, cp, hv, hga, hcp, hga2⟩ := HS'.out.live.shape2
    rw [idl_len] at hv hga hcp hga2
    subst hv
    have HG := Lib.hid hga
    have HG2 := Lib.hid hga2
    clear hga hga2
    have hL : L ≤ 1024 := by obtain ⟨h1, h2, h3⟩ := HO.out; have := xgap_bd m f' n'; omega
    by_cases hlt : k < len
    · obtain ⟨bo, off, hao, q0, q1⟩ := HOPS.out k hlt
      subst hao
      have r0 := (HS'.out.bel.cell (p := ⟨bo, off + k * 2, none⟩) (World.block_lt_of_cell? w _ q0)).trans q0
      have r1 := (HS'.out.bel.cell (p := ⟨bo, off + k * 2 + 1, none⟩) (World.block_lt_of_cell? w _ q1)).trans q1
      clear q0 q1
      generalize A k = q at r0
      generalize N k = z at r1
      have hcase : (q == 0) = true ∨ (q == 0) = false := by cases (q == 0) <;> simp
      rcases hcase with t0 | t0
      · by_cases hx : 0 < xleft m n' f'
        · have HO2 := Lib.hid (ordn_take HO.out hx)
          go_wp2_with fail
          refine (take_yes b m n' f' _ HS'.out.c HM.out hx).mono ?_
          rintro e w3 ⟨rfl, hc3, hg3⟩
          have H3 := Lib.hid (HS'.out.setC hg3 hc3)
          clear hc3 hg3 hx r0 r1 t0
          go_wp2_with fail
          go_loopw [13] (fun i wx => ∃ j : Nat, j ≤ L ∧ i = .int .i64 j ∧ Hid (Ord w wx b B m (xadd m n' 1) f' L (.slice ga L cp) 3)) (fun i _ => L - (intOf i).toNat)
          case atStart => exact ⟨0, Nat.zero_le _, rfl, H3.out⟩
          case round =>
            obtain ⟨j, hj, rfl, HX2⟩ := hrel
            by_cases hjl : j < L
            · obtain ⟨g, o, hga⟩ := HG.out j hjl
              subst hga
              have hcell := HX2.out.live.cell (by rw [idl_len]) j (by rw [idl_len]; exact hjl)
              rw [idl_get _ _ _ _ hjl] at hcell
              obtain ⟨k1, k2, k3⟩ := ordn_bef HO.out hjl
              have K2 := Lib.hid k2
              have K3 := Lib.hid k3
              clear k2 k3
              have j0 : (0 : Int) ≤ (j : Int) := Int.natCast_nonneg _
              have j1 : (j : Int) < (L : Int) := by omega
              generalize hid : xadd m f' j = y at *
              have HID := Lib.hid hid
              clear hid
              go_wp2_with fail
              refine (bef_c m y n' _).mono ?_
              rw [K2.out]
              rintro e w5 ⟨rfl, hb5⟩
              have hcell5 := bel_at hb5 hcell
              have H5 := Lib.hid (HX2.out.below hb5)
              clear hcell hb5 HX2
              go_wp2_with fail
              refine (bef_c m n' y _).mono ?_
              rw [K3.out]
              rintro e w6 ⟨rfl, hb6⟩
              have H6 := Lib.hid (H5.out.below hb6)
              clear hb6
              go_wp2_with fail
              go_roundw
              case rel => exact ⟨j + 1, by omega, by go_num, H6.out⟩
              case measure => simp [intOf]; omega
            · have hjL : j = L := by omega
              subst hjL
              go_wp2_with (first | (at_builtin; refine wpList_append_live _ rfl (.tmp 84) (.tmp 86) 30 rfl B 3 i0 Try.underlying30 HI.out HZ0.out HZ1.out HZ2.out _ (idl m f' j) rfl (HX2.out.live.kept (grown_alloc _ _ none) (by simp)) ⟨wr.heap.size, 0, none⟩ 1 n' rfl (by simp [go_sem]) (by have := HX2.out.h3; simp; omega) (by rw [idl_len]; omega) ?_))
              intro v' w6 hl6 hb6
              have H6 : Hid (Ord w w6 b B m (xadd m n' 1) f' (j + 1) v' 3) := HX2.out.app (((Below.refl B wr).alloc HX2.out.h3 _).trans hb6) (by rw [← idl_snoc, ← HO.out.2.1]; exact hl6) rfl
              clear hl6 hb6 HX2
              go_wp2_with fail
              go_roundw
              case rel => exact ⟨k + 1, by omega, by go_num, ⟨_, f', j + 1, H6.out, HO2.out⟩⟩
              case measure => simp [intOf]; omega
        · have hx0 : xleft m n' f' ≤ 0 := by omega
          clear hx
          go_wp2_with fail
          refine (take_no b m n' f' _ HS'.out.c HM.out hx0).mono ?_
          rintro e w3 ⟨rfl, hb3⟩
          have H3 := Lib.hid (HS'.out.below hb3)
          clear hb3
          go_wp2_with fail
          go_roundw
          case rel => exact ⟨k + 1, by omega, by go_num, ⟨n', f', L, H3.out, HO.out⟩⟩
          case measure => simp [intOf]; omega
      · by_cases hz : z < 0 ∨ (L : Int) < z
        · rcases hz with hz | hz
          · go_wp2_with fail
            go_roundw
            case rel => exact ⟨k + 1, by omega, by go_num, ⟨n', f', L, HS'.out, HO.out⟩⟩
            case measure => simp [intOf]; omega
          · have hz0 : ¬ z < 0 := by omega
            go_wp2_with fail
            go_roundw
            case rel => exact ⟨k + 1, by omega, by go_num, ⟨n', f', L, HS'.out, HO.out⟩⟩
            case measure => simp [intOf]; omega
        · obtain ⟨y, rfl⟩ : ∃ y : Nat, z = y := ⟨z.toNat, by omega⟩
          have hy : y ≤ L := by omega
          clear hz
          have HF := Lib.hid (ordn_freeze HO.out hy)
          have h0 : ¬ ((y : Int) < 0) := by omega
          have h1 : ¬ ((L : Int) < (y : Int)) := by omega
          by_cases hyl : y < L
          · obtain ⟨g, o, hga⟩ := HG.out y hyl
            subst hga
            have hcell := HS'.out.live.cell (by rw [idl_len]) y (by rw [idl_len]; exact hyl)
            rw [idl_get _ _ _ _ hyl] at hcell
            have j0 : (0 : Int) ≤ (y : Int) := Int.natCast_nonneg _
            have j1 : (y : Int) < (L : Int) := by omega
            generalize hid : xadd m f' y = f2 at *
            have HID := Lib.hid hid
            clear hid
            go_wp2_with fail
            refine (next_c b m n' f' _ HS'.out.c).mono ?_
            rintro e w5 ⟨rfl, rfl⟩
            go_wp2_with fail
            refine (freeze_yes b m n' f' f2 _ HS'.out.c HM.out HF.out.1).mono ?_
            rintro e w5 ⟨rfl, hc5, hg5⟩
            have hl5 := HS'.out.live.kept hg5 (fun r hr => by cases hr; exact HS'.out.h2)
            have hl5' : Live w5 B 3 (.slice (some ⟨g, o, none⟩) (idl m f' L).length cp) (idl m f' L) := by rw [idl_len]; exact hl5
            have hd5 := hl5'.drop y (by rw [idl_len]; omega)
            rw [idl_drop _ _ HM.out (okn_bd HO.out.1).2.1, idl_len, HID.out] at hd5
            have H5 : Hid (Ord w w5 b B m n' f2 (L - y) (.slice (some ⟨g, o + y, none⟩) (L - y) (cp - y)) 3) :=
              ⟨hc5, hd5, HS'.out.bel.grown hg5 HS'.out.bel.size (by rintro j hj; cases hj; exact HS'.out.h1), HS'.out.h1, HS'.out.h2, Nat.le_trans HS'.out.h3 hg5.size⟩
            clear hl5 hl5' hd5 hc5 hg5 hcell
            have hne : ¬ cp = y := by omega
            have hle : y ≤ cp := by omega
            go_wp2_with fail
            go_roundw
            case rel => exact ⟨k + 1, by omega, by go_num, ⟨n', f2, L - y, H5.out, HF.out.2⟩⟩
            case measure => simp [intOf]; omega
          · have hyL : y = L := by omega
            subst hyL
            have HEQ := Lib.hid HO.out.2.1
            go_wp2_with fail
            refine (next_c b m n' f' _ HS'.out.c).mono ?_
            rintro e w5 ⟨rfl, rfl⟩
            go_wp2_with fail
            refine (freeze_yes b m n' f' n' _ HS'.out.c HM.out (by have := HF.out.1; rw [← HEQ.out] at this; exact this)).mono ?_
            rintro e w5 ⟨rfl, hc5, hg5⟩
            have hl5 := HS'.out.live.kept hg5 (fun r hr => by cases hr; exact HS'.out.h2)
            have hb5 := HS'.out.bel.grown hg5 HS'.out.bel.size (by rintro j hj; cases hj; exact HS'.out.h1)
            have h35 := Nat.le_trans HS'.out.h3 hg5.size
            have hnil : idl m n' 0 = [] := rfl
            have HN0 : Hid (OrdN m n' n' 0) := by have := HF.out.2; rw [← HEQ.out, Nat.sub_self] at this; exact this
            rcases HG2.out with ⟨rfl, rfl, rfl⟩ | ⟨g, o, rfl⟩
            · have H5 : Hid (Ord w w5 b B m n' n' 0 (.slice none 0 0) 3) := ⟨hc5, .inl ⟨rfl, rfl⟩, hb5, HS'.out.h1, HS'.out.h2, h35⟩
              clear hl5 hb5 h35 hc5 hg5 hnil
              go_wp2_with fail
              go_roundw
              case rel => exact ⟨k + 1, by omega, by go_num, ⟨n', n', 0, H5.out, HN0.out⟩⟩
              case measure => simp [intOf]; omega
            · have hl5' : Live w5 B 3 (.slice (some ⟨g, o, none⟩) (idl m f' y).length cp) (idl m f' y) := by rw [idl_len]; exact hl5
              by_cases hcy : cp = y
              · subst hcy
                have H5 : Hid (Ord w w5 b B m n' n' 0 (.slice (some ⟨g, o, none⟩) 0 0) 3) := ⟨hc5, hl5'.dropAll (idl_len _ _ _), hb5, HS'.out.h1, HS'.out.h2, h35⟩
                clear hl5 hl5' hb5 h35 hc5 hg5 hnil
                go_wp2_with fail
                go_roundw
                case rel => exact ⟨k + 1, by omega, by go_num, ⟨n', n', 0, H5.out, HN0.out⟩⟩
                case measure => simp [intOf]; omega
              · have hd5 := hl5'.drop y (by rw [idl_len]; omega)
                rw [idl_drop _ _ HM.out (okn_bd HO.out.1).2.1, idl_len, ← HEQ.out, Nat.sub_self] at hd5
                have H5 : Hid (Ord w w5 b B m n' n' 0 (.slice (some ⟨g, o + y, none⟩) 0 (cp - y)) 3) := ⟨hc5, hd5, hb5, HS'.out.h1, HS'.out.h2, h35⟩
                clear hl5 hl5' hd5 hb5 h35 hc5 hg5 hnil
                have hle : y ≤ cp := hcp
                go_wp2_with fail
                go_roundw
                case rel => exact ⟨k + 1, by omega, by go_num, ⟨n', n', 0, H5.out, HN0.out⟩⟩
                case measure => simp [intOf]; omega
    · have HL := Lib.hid (ordn_left HO.out)
      go_wp2_with fail
      refine (left_c b m n' f' _ HS'.out.c HM.out).mono ?_
      rw [HL.out]
      rintro e w3 ⟨rfl, hb3⟩
      have H3 := Lib.hid (HS'.out.below hb3)
      clear hb3
      go_wp2_with fail
      refine (awake_c _).mono ?_
      rintro e w4 ⟨rfl, hb4⟩
      have H4 := (H3.out.below hb4).bel
      clear hb4
      go_wp2_with fail
      go_ret
      exact ⟨rfl, H4⟩

theorem xidOrder_w (m n : Int) (ao : Option Addr) (len cap : Nat) (A N : Nat → Int) (w : World) (hlen : len ≤ 9223372036854775807) (hops : OpsIn w ao len A N) :
    Calls Try.prog 5 #[.int .i64 m, .int .i64 n, .slice ao len cap] w fun e w' => e = .returned (.bool true) ∧ Below w.heap.size w w' := by
  by_cases h : okn m n n = true
  · exact xidOrder_good m n ao len cap A N w hlen h hops
  · exact xidOrder_bad m n _ w (by simpa using h)
end Go.Proofs.Ytipnmdhifkckkaa
