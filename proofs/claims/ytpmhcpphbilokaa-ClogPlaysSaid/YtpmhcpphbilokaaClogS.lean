/- Statuses: how the reference takes a page. -/
import Derived.Test.YtpmhcpphbilokaaClogR
import Derived.Test.YtpmhcpphbilokaaClogQ
import Derived.Test.YtpmhcpphbilokaaClogJ
namespace Go.Proofs.Ytpmhcpphbilokaa
open Go.RowKit
set_option linter.unusedSimpArgs false
set_option maxRecDepth 100000
attribute [local irreducible] wpQuiet

/-- The first n statuses, as a list. -/
def stL (f : Nat → Nat) (n : Nat) : List UInt8 := (List.range n).map fun i => UInt8.ofNat (f i)
theorem stL_len (f : Nat → Nat) (n : Nat) : (stL f n).length = n := by simp [stL]
theorem stL_get {f : Nat → Nat} (h : ∀ i, f i ≤ 3) (n i : Nat) (hi : i < (stL f n).length) : (stL f n)[i].toNat = f i := by
  have := h i
  have e : (stL f n)[i] = UInt8.ofNat (f i) := by simp [stL]
  rw [e]; show f i % 256 = f i; omega
theorem stL_next (f : Nat → Nat) (n : Nat) : stL f (n + 1) = stL f n ++ [UInt8.ofNat (f n)] := by simp [stL, List.range_succ]
theorem stL_upd (f : Nat → Nat) (n i s : Nat) : stL (upd f i s) n = (stL f n).set i (UInt8.ofNat s) := by
  apply List.ext_getElem (by simp [stL])
  intro j h1 h2
  rw [List.getElem_set]
  simp only [stL, List.getElem_map, List.getElem_range]
  unfold upd
  by_cases e : j = i
  · subst e; simp
  · rw [if_neg e, if_neg (fun q => e q.symm)]
/-- What 'taken' gives. -/
def TakeP (w : World) (m : Int) (o : Int × Int × List UInt8) (e : Ending) (w' : World) : Prop :=
  (∃ v, e = .returned (.tuple #[.int .i64 o.2.1, v, .int .i64 o.1]) ∧ (o.1 = 0 → ∃ g cap, v = .slice (some ⟨g, 0, none⟩) m.toNat cap ∧ w.heap.size ≤ g ∧ BV w' g (stL (stOf o.2.2) m.toNat))) ∧ Below w.heap.size w w'

theorem Try.info_st : (Try.prog.info? 30).map (fun i => (i.zero, i.size, i.bytes)) = some (some (.int .u8 0), 1, 1) := by kernel_rfl
theorem Try.sty : ByTy Try.prog 61 30 := by
  obtain ⟨i, h1, h2⟩ := Option.map_eq_some_iff.1 Try.info_st
  simp only [Prod.mk.injEq] at h2
  exact ⟨Try.underlying61, i, h1, h2.1, h2.2.1, h2.2.2⟩
theorem own_bv {w : World} {B : Nat} {e : TypeId} {v : Value} {l : List UInt8} {n : Nat} (h : w.ownsRow B e 1 v n (bcells l)) (hl : 0 < l.length) : ∃ g cap, v = .slice (some ⟨g, 0, none⟩) l.length cap ∧ B ≤ g ∧ BV w g l := by
  rcases h with ⟨hlen, ⟨rfl, hx⟩ | ⟨g, cap, cur, rfl, hB, hg, hn, hm, hc, ht⟩⟩
  · rw [bcells_len] at hlen; omega
  · have hnl : n = l.length := by rw [bcells_len] at hlen; omega
    subst hnl
    refine ⟨g, cap, rfl, hB, fun j hj => ?_, fun j hj => ?_, ?_⟩
    · simp only [World.cell?, hg]
      have hj2 : (bcells l)[j]? = some (.int .u8 l[j].toNat) := by simp [bcells, List.getElem?_eq_getElem hj]
      rw [← ht, List.getElem?_take, if_pos (by omega)] at hj2
      simpa using hj2
    · exact frozen_of_row w g j _ _ hg
    · exact (Array.getElem?_eq_some_iff.1 hg).1

set_option maxHeartbeats 1000000 in
theorem take_mod (m a0 a1 a2 a3 : Int) (h : ByteArray) (ao : Option Addr) (len cap : Nat) (S : Nat → ByteArray) (w : World) (hm : okm m = false) :
    Calls Try.prog 32 #[.int .i64 m, .agg #[.int .i64 a0, .int .i64 a1, .int .i64 a2, .int .i64 a3, .string h, .slice ao len cap]] w fun e w' => TakeP w m (opV m a0 a1 a2 a3 h len S) e w' := by
  have HO : Hid (opV m a0 a1 a2 a3 h len S = (1, 0, [])) := by unfold Hid opV; rw [if_pos hm]
  go_enter Try.func32, Try.ntmps32
  go_wp2_with fail
  refine (right_c m _).mono ?_
  rintro e w1 ⟨rfl, rfl⟩
  rw [hm]
  go_wp2_with fail
  go_ret3
  rw [HO.out]
  exact ⟨⟨_, rfl, fun q => by cases q⟩, (Below.refl _ w).alloc (Nat.le_refl _) _⟩

set_option maxHeartbeats 2000000 in
theorem take_bad (m a0 a1 a2 a3 : Int) (h : ByteArray) (ao : Option Addr) (len cap : Nat) (S : Nat → ByteArray) (w : World) (hm : okm m = true) (hs : StrsIn w ao len S) (hb : okpg m a0 a1 a2 a3 h len S = false) :
    Calls Try.prog 32 #[.int .i64 m, .agg #[.int .i64 a0, .int .i64 a1, .int .i64 a2, .int .i64 a3, .string h, .slice ao len cap]] w fun e w' => TakeP w m (opV m a0 a1 a2 a3 h len S) e w' := by
  have HO : Hid (opV m a0 a1 a2 a3 h len S = (31, 0, [])) := by unfold Hid opV; rw [if_neg (by rw [hm]; simp), if_pos hb]
  have HBAD := Lib.hid hb
  have hmb := okm_bd hm
  have HZ := Lib.hid (sz_int hm)
  obtain ⟨wb, hwb⟩ : ∃ wb, wb = w.alloc (.cells #[.int .i64 a0, .int .i64 a1, .int .i64 a2, .int .i64 a3, .string h, .slice ao len cap] 25) := ⟨_, rfl⟩
  obtain ⟨bt, hbt⟩ : ∃ bt, bt = w.heap.size := ⟨_, rfl⟩
  have H1 : Hid (PB w wb bt a0 a1 a2 a3 h ao len cap S) := by rw [hwb, hbt]; exact PB.new w a0 a1 a2 a3 h ao len cap S hs
  have HWB := Lib.hid hwb
  have HBT := Lib.hid hbt
  clear hwb hbt hs hb
  go_enter Try.func32, Try.ntmps32
  go_wp2_with fail
  rw [← HWB.out, ← HBT.out]
  clear HWB HBT
  refine (right_c m _).mono ?_
  rintro e w1 ⟨rfl, rfl⟩
  rw [hm]
  obtain ⟨c0, c1, c2, c3, c4, c5⟩ := H1.out.cell
  by_cases q1 : a1 = 1
  rotate_left
  · have t1 : (a1 == 1) = false := by rw [beq_eq_false_iff_ne]; exact q1
    go_wp2_with fail
    go_ret3
    rw [HO.out]
    exact ⟨⟨_, rfl, fun q => by cases q⟩, H1.out.bel⟩
  have t1 : (a1 == 1) = true := by rw [beq_iff_eq]; exact q1
  by_cases q2 : 0 ≤ a0
  rotate_left
  · have t2 : decide (a0 < 0) = true := by exact decide_eq_true (by omega)
    go_wp2_with fail
    go_ret3
    rw [HO.out]
    exact ⟨⟨_, rfl, fun q => by cases q⟩, H1.out.bel⟩
  have t2 : decide (a0 < 0) = false := by exact decide_eq_false (by omega)
  by_cases q3 : a2 = 0
  rotate_left
  · have t3 : (a2 == 0) = false := by rw [beq_eq_false_iff_ne]; exact q3
    go_wp2_with fail
    go_ret3
    rw [HO.out]
    exact ⟨⟨_, rfl, fun q => by cases q⟩, H1.out.bel⟩
  have t3 : (a2 == 0) = true := by rw [beq_iff_eq]; exact q3
  by_cases q4 : a3 = 0
  rotate_left
  · have t4 : (a3 == 0) = false := by rw [beq_eq_false_iff_ne]; exact q4
    go_wp2_with fail
    go_ret3
    rw [HO.out]
    exact ⟨⟨_, rfl, fun q => by cases q⟩, H1.out.bel⟩
  have t4 : (a3 == 0) = true := by rw [beq_iff_eq]; exact q4
  by_cases q5 : h.size = 0
  rotate_left
  · have t5 : h.toList.isEmpty = false := by rw [empty_iff]; exact decide_eq_false q5
    go_wp2_with fail
    go_ret3
    rw [HO.out]
    exact ⟨⟨_, rfl, fun q => by cases q⟩, H1.out.bel⟩
  have t5 : h.toList.isEmpty = true := by rw [empty_iff]; exact decide_eq_true q5
  by_cases q6 : len = 2
  rotate_left
  · have t6 : ((len : Int) != 2) = true := by rw [bne_iff_ne]; omega
    go_wp2_with fail
    go_ret3
    rw [HO.out]
    exact ⟨⟨_, rfl, fun q => by cases q⟩, H1.out.bel⟩
  have t6 : ((len : Int) != 2) = false := by rw [bne_eq_false_iff_eq]; omega
  by_cases q7 : (S 1).size = sz m
  rotate_left
  · have hz : (m + 3) / 4 = (sz m : Int) := HZ.out.1.symm
    have t7 : (((S 1).size : Int) != (sz m : Int)) = true := by rw [bne_iff_ne]; omega
    obtain ⟨b, off, rfl, hc1, _⟩ := H1.out.it 1 (by omega)
    go_wp2_with fail
    go_ret3
    rw [HO.out]
    exact ⟨⟨_, rfl, fun q => by cases q⟩, H1.out.bel⟩
  exfalso
  have e := HBAD.out
  simp [okpg, q1, q2, q3, q4, q5, q6, q7] at e
end Go.Proofs.Ytpmhcpphbilokaa
