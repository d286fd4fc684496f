/- The writer's other contracts, and the reference's. -/
import Derived.Test.YtpmhcpphbilokaaBitsC
namespace Go.Proofs.Ytpmhcpphbilokaa
open Go.RowKit
set_option linter.unusedSimpArgs false
set_option maxRecDepth 100000

theorem new_c (w : World) :
    Calls Try.prog 45 #[] w fun e w' => e = .returned (.pointer (some ⟨w.heap.size, 0, none⟩)) ∧ WrV w' w.heap.size w'.heap.size 5 (.slice none 0 0) [] ∧ Below w.heap.size w w' ∧ w'.heap.size = w.heap.size + 1 := by
  go_enter Try.func45, Try.ntmps45
  go_wp2_with fail
  go_ret
  refine ⟨rfl, ⟨?_, ?_, World.ownsRow_nil _ _ _ 1, by simp, Nat.le_refl _⟩, (Below.refl _ w).alloc (Nat.le_refl _) _, by simp⟩
  · simp [go_sem]
  · simp [go_sem]

/-- A text that is laid. -/
def txl (s : ByteArray) : List UInt8 := sev s.size ++ s.data.toList
theorem sevs_size (s : ByteArray) : sevs [(s.size : Int)] = sev s.size := by rw [sevs_one]; simp

set_option maxRecDepth 100000 in
theorem bytes_c (bw B : Nat) (v : Value) (l : List UInt8) (w : World) (hw : WrV w bw B 5 v l) :
    Calls Try.prog 47 #[.pointer (some ⟨bw, 0, none⟩)] w fun e w' => e = .returned (.string ⟨l.toArray⟩) ∧ w = w' := by
  have hc := hw.cell
  have HO := Lib.hid hw.own
  clear hw
  go_enter Try.func47, Try.ntmps47
  go_wp2_with fail
  rw [run_string_of w 55 9 5 Try.underlying55 Try.underlying5 Try.underlying9 HO.out]
  go_wp2_with fail
  go_ret
  exact ⟨rfl, rfl⟩

set_option maxRecDepth 100000 in
set_option maxHeartbeats 1000000 in
theorem rnum_c (ns : List Int) (ao : Option Addr) (cap : Nat) (w : World)
    (hin : ∀ z ∈ ns, z ≤ 9223372036854775807) (hcell : ∀ j z, ns[j]? = some z → ∃ ad, ao = some ad ∧ w.cell? (ad.add j) = some (.int .i64 z))
    (hlen : 9 * ns.length ≤ 140737488355328) :
    Calls Try.prog 48 #[.slice ao ns.length cap] w fun e w' => e = .returned (.string ⟨(sevs ns).toArray⟩) ∧ Below w.heap.size w w' := by
  go_enter Try.func48, Try.ntmps48
  go_wp2_with fail
  go_loopw [3, 4] (fun b i wr => ∃ k : Nat, k ≤ ns.length ∧ i = .int .i64 k ∧ Hid (RB w 5 wr b (sevs (ns.take k)))) (fun _ i _ => ns.length - (intOf i).toNat)
  case atStart => exact ⟨0, by omega, rfl, RB.start w _⟩
  case round =>
    obtain ⟨k, hk, rfl, HS⟩ := hrel
    by_cases hlt : k < ns.length
    · obtain ⟨ad, rfl, hz⟩ := hcell k ns[k] (List.getElem?_eq_getElem hlt)
      clear hcell
      have hza := bel_at HS.out.bel hz
      have hz63 := hin ns[k] (List.getElem_mem hlt)
      have HT : Hid (sevs (ns.take (k + 1)) = sevs (ns.take k) ++ sev ns[k].toNat) := by
        unfold Hid; rw [List.take_succ_eq_append_getElem hlt, sevs_snoc]
      have hl1 : (sevs (ns.take k)).length ≤ 9 * k := Nat.le_trans (sevs_len _ fun y hy => hin y (List.mem_of_mem_take hy)) (by rw [List.length_take]; omega)
      generalize hzz : ns[k] = z at *
      have HZ := Lib.hid hzz
      clear hzz hz
      obtain ⟨n, hn⟩ : ∃ n : Nat, n = z.toNat := ⟨_, rfl⟩
      have hn63 : n ≤ 9223372036854775807 := by omega
      have HNX : Hid (sevs (ns.take (k + 1)) = sevs (ns.take k) ++ sev n) := by rw [hn]; exact HT
      generalize hl2 : sevs (ns.take k) = l2 at *
      clear hl2
      have hl3 : l2.length + 9 ≤ 140737488355328 := by omega
      have hsn : (sev n).length ≤ 9 := sev_len (by omega)
      have HN := Lib.hid hn
      clear hn
      obtain ⟨wo, rfl⟩ : ∃ wo : World, wo = wr := ⟨_, rfl⟩
      go_wp2_with fail
      all_goals go_loopw [3, 5] (fun b x wi => ∃ (m : Nat) (l3 : List UInt8), m ≤ n ∧ x = .int .i64 m ∧ Hid (RB w 5 wi b l3) ∧ Hid (l3 ++ sev m = l2 ++ sev n)) (fun _ x _ => (intOf x).toNat)
      all_goals first
        | exact ⟨n, l2, Nat.le_refl _, by congr 1; have := HN.out; omega, HS, rfl⟩
        | skip
      all_goals (
        obtain ⟨m, l3, hm, rfl, HW, HE⟩ := hrel
        have hl4 : l3.length + (sev m).length = l2.length + (sev n).length := by
          have := congrArg List.length HE.out; simpa [List.length_append] using this
        have hsm := sev_pos m
        have hl5 : l3.length + 1 ≤ 140737488355328 := by omega
        by_cases h128 : m < 128
        · have HM1 : Hid (l3 ++ [UInt8.ofNat m] = sevs (ns.take (k + 1))) := by
            unfold Hid; rw [HNX.out, ← HE.out, sev_low h128]
          go_wp2_with (first | (at_builtin; refine wpList_rb_by (w0 := w) rfl (.tmp 28) (.tmp 31) 55 5 rfl Try.bty rfl HW.out _ m ?_ (by omega) rfl hl5 ?_))
          · rfl
          intro ao nn cc w3 HA
          have HA3 := Lib.hid HA
          clear HA
          go_wp2_with fail
          go_roundw
          case rel => exact ⟨k + 1, by omega, by go_num, by unfold Hid; rw [← HM1.out]; exact HA3.out⟩
          case measure => simp [intOf]; omega
        · obtain ⟨c, hc⟩ : ∃ c, c = m % 128 + 128 := ⟨_, rfl⟩
          have hc256 : c < 256 := by omega
          have HM1 : Hid ((l3 ++ [UInt8.ofNat c]) ++ sev (m / 128) = l2 ++ sev n) := by
            unfold Hid; rw [← HE.out, sev_high h128, List.append_assoc, hc]; rfl
          have HC := Lib.hid hc
          clear hc
          go_wp2_with (first | (at_builtin; refine wpList_rb_by (w0 := w) rfl (.tmp 19) (.tmp 24) 55 5 rfl Try.bty rfl HW.out _ c ?_ hc256 rfl hl5 ?_))
          · have := HC.out
            omega
          intro ao nn cc w3 HA
          have HA3 := Lib.hid HA
          clear HA
          go_wp2_with fail
          go_roundw
          case rel => exact ⟨m / 128, _, by omega, by go_num, HA3, HM1⟩
          case measure => simp [intOf]; omega)
    · have hk' : k = ns.length := by omega
      have hlt' : ¬ ((k : Int) < (ns.length : Int)) := by omega
      have HF : Hid (RB w 5 wr u3 (sevs ns)) := by
        unfold Hid; have := HS.out; rwa [hk', List.take_length] at this
      clear hk'
      go_wp2_with fail
      rw [run_string_of _ 55 9 5 Try.underlying55 Try.underlying5 Try.underlying9 HF.out.own]
      go_wp2_with fail
      go_ret
      exact ⟨rfl, HF.out.bel⟩
end Go.Proofs.Ytpmhcpphbilokaa
