/- The writer's contracts. -/
import Derived.Test.YtkjnjccjkjachaaBitsB
import Derived.Handy
namespace Go.Proofs.Ytkjnjccjkjachaa
open Go.RowKit
set_option linter.unusedSimpArgs false
set_option maxRecDepth 100000

theorem Try.info_u8 : (Try.prog.info? 5).map (fun i => (i.zero, i.size, i.bytes)) = some (some (.int .u8 0), 1, 1) := by kernel_rfl
theorem Try.bty : ByTy Try.prog 46 5 := by
  obtain ⟨i, h1, h2⟩ := Option.map_eq_some_iff.1 Try.info_u8
  simp only [Prod.mk.injEq] at h2
  exact ⟨Try.underlying46, i, h1, h2.1, h2.2.1, h2.2.2⟩

theorem add_block (a : Addr) (k : Nat) : (a.add k).block = a.block := by unfold Addr.add; split <;> rfl
theorem sevs_len : ∀ (ns : List Int), (∀ z ∈ ns, z ≤ 9223372036854775807) → (sevs ns).length ≤ 9 * ns.length := by
  intro ns
  induction ns with
  | nil => intro _; simp [sevs]
  | cons z ns ih =>
    intro h
    have h1 := ih fun y hy => h y (List.mem_cons_of_mem _ hy)
    have h2 := h z List.mem_cons_self
    have h3 := sev_len (n := z.toNat) (by omega)
    simp only [sevs, List.flatMap_cons, List.length_append, List.length_cons] at *
    omega

set_option maxHeartbeats 1000000 in
theorem num_c (bw B : Nat) (v : Value) (l : List UInt8) (ns : List Int) (ao : Option Addr) (cap : Nat) (w : World) (hw : WrV w bw B 5 v l)
    (hin : ∀ z ∈ ns, z ≤ 9223372036854775807) (hcell : ∀ j z, ns[j]? = some z → ∃ ad, ao = some ad ∧ w.cell? (ad.add j) = some (.int .i64 z)) (hbl : ∀ ad, ao = some ad → ad.block ≠ bw ∧ some ad.block ≠ v.ownBlock)
    (hlen : l.length + 9 * ns.length ≤ 140737488355328) :
    Calls Try.prog 49 #[.pointer (some ⟨bw, 0, none⟩), .slice ao ns.length cap] w fun e w' => e = .returned (.tuple #[]) ∧ ∃ v', WS w v bw B 5 w' v' (l ++ sevs ns) := by
  go_enter Try.func49, Try.ntmps49
  go_wp2_with fail
  go_loopw [10] (fun i wr => ∃ k : Nat, k ≤ ns.length ∧ i = .int .i64 k ∧ ∃ v', Hid (WS w v bw B 5 wr v' (l ++ sevs (ns.take k)))) (fun i _ => ns.length - (intOf i).toNat)
  case atStart => exact ⟨0, by omega, rfl, v, by unfold Hid; simpa [sevs] using WS.start hw⟩
  case round =>
    obtain ⟨k, hk, rfl, v1, HS⟩ := hrel
    by_cases hlt : k < ns.length
    · obtain ⟨ad, rfl, hz⟩ := hcell k ns[k] (List.getElem?_eq_getElem hlt)
      obtain ⟨hb1, hb2⟩ := hbl ad rfl
      clear hcell hbl
      have hza := HS.out.at hz (by rw [add_block]; exact hb1) (by rw [add_block]; exact hb2)
      have hz63 := hin ns[k] (List.getElem_mem hlt)
      have HT : Hid (sevs (ns.take (k + 1)) = sevs (ns.take k) ++ sev ns[k].toNat) := by
        unfold Hid; rw [List.take_succ_eq_append_getElem hlt, sevs_snoc]
      have hl1 : (sevs (ns.take k)).length ≤ 9 * k := Nat.le_trans (sevs_len _ fun y hy => hin y (List.mem_of_mem_take hy)) (by rw [List.length_take]; omega)
      generalize hzz : ns[k] = z at *
      have HZ := Lib.hid hzz
      clear hzz hz
      generalize hl2 : l ++ sevs (ns.take k) = l2 at *
      have HL2 := Lib.hid hl2
      clear hl2
      obtain ⟨n, hn⟩ : ∃ n : Nat, n = z.toNat := ⟨_, rfl⟩
      have hn63 : n ≤ 9223372036854775807 := by omega
      have hl3 : l2.length + 9 ≤ 140737488355328 := by rw [← HL2.out, List.length_append]; omega
      have HNX : Hid (sevs (ns.take (k + 1)) = sevs (ns.take k) ++ sev n) := by rw [hn]; exact HT
      have hsn : (sev n).length ≤ 9 := sev_len (by omega)
      have HN := Lib.hid hn
      clear hn
      obtain ⟨wo, rfl⟩ : ∃ wo : World, wo = wr := ⟨_, rfl⟩
      have hwcell := HS.out.wr.cell
      go_wp2_with fail
      all_goals go_loopw [5] (fun x wi => ∃ (m : Nat) (v2 : Value) (l3 : List UInt8), m ≤ n ∧ x = .int .i64 m ∧ Hid (WS w v bw B 5 wi v2 l3) ∧ Hid (l3 ++ sev m = l2 ++ sev n)) (fun x _ => (intOf x).toNat)
      all_goals first
        | exact ⟨n, v1, l2, Nat.le_refl _, by congr 1; have := HN.out; omega, HS, rfl⟩
        | skip
      all_goals (
        obtain ⟨m, v2, l3, hm, rfl, HW, HE⟩ := hrel
        have hl4 : l3.length + (sev m).length = l2.length + (sev n).length := by
          have := congrArg List.length HE.out; simpa [List.length_append] using this
        have hsm := sev_pos m
        have hcell2 := HW.out.wr.cell
        clear hwcell
        have hnow := HW.out.wr.le
        have hltb := HW.out.wr.lt
        by_cases h128 : m < 128
        · have HM1 : Hid (l3 ++ [UInt8.ofNat m] = l ++ sevs (ns.take (k + 1))) := by
            unfold Hid; rw [HNX.out, ← List.append_assoc, HL2.out, ← HE.out, sev_low h128]
          have hl5 : l3.length + 1 ≤ 140737488355328 := by omega
          go_wp2_with (first | (at_builtin; refine wpList_ws_by (w0 := w) (v0 := v) (bw := bw) (B := B) (v := v2) (l := l3) rfl (.tmp 36) (.tmp 39) 46 5 rfl Try.bty rfl HW.out _ m ?_ (by omega) rfl hl5 ?_))
          · rfl
          intro ao nn cc w3 hc3 hf3 HA
          have HA3 := Lib.hid HA
          clear HA hcell2
          go_wp2_with fail
          go_roundw
          case rel => exact ⟨k + 1, by omega, by go_num, _, by unfold Hid; rw [← HM1.out]; exact HA3.out.fin⟩
          case measure => simp [intOf]; omega
        · obtain ⟨c, hc⟩ : ∃ c, c = m % 128 + 128 := ⟨_, rfl⟩
          have hc256 : c < 256 := by omega
          have HM1 : Hid ((l3 ++ [UInt8.ofNat c]) ++ sev (m / 128) = l2 ++ sev n) := by
            unfold Hid; rw [← HE.out, sev_high h128, List.append_assoc, hc]; rfl
          have hl5 : l3.length + 1 ≤ 140737488355328 := by omega
          have HOR : Hid (bits BinOp.or IntKind.u8 ((m : Int) % 256) 128 = (c : Int)) := by
            have h := or_128 (m % 256) (by omega)
            rw [show m % 256 % 128 = m % 128 from by omega, show (((m % 256 : Nat)) : Int) = (m : Int) % 256 from by omega] at h
            rw [hc]; exact h
          clear hc
          go_wp2_with (first | (at_builtin; refine wpList_ws_by (w0 := w) (v0 := v) (bw := bw) (B := B) (v := v2) (l := l3) rfl (.tmp 24) (.tmp 28) 46 5 rfl Try.bty rfl HW.out _ c ?_ hc256 rfl hl5 ?_))
          · exact HOR.out
          intro ao nn cc w3 hc3 hf3 HA
          have HA3 := Lib.hid HA
          clear HA hcell2
          go_wp2_with fail
          go_roundw
          case rel => exact ⟨m / 128, _, _, by omega, by go_num, HA3.out.fin, HM1⟩
          case measure => simp [intOf]; omega)
    · have hk' : k = ns.length := by omega
      have hlt' : ¬ ((k : Int) < (ns.length : Int)) := by omega
      have HF : Hid (WS w v bw B 5 wr v1 (l ++ sevs ns)) := by
        unfold Hid; have := HS.out; rwa [hk', List.take_length] at this
      clear hk'
      go_wp2_with fail
      go_returns
      exact ⟨rfl, v1, HF.out⟩
end Go.Proofs.Ytkjnjccjkjachaa
