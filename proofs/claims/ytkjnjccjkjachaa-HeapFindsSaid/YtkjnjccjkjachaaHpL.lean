/- heap.Keys: the keys of all slots that are not free. -/
import Derived.Test.YtkjnjccjkjachaaHpK
namespace Go.Proofs.Ytkjnjccjkjachaa
open Go.RowKit
set_option linter.unusedSimpArgs false
set_option linter.unusedVariables false
set_option maxRecDepth 100000

theorem info_ent : (Try.prog.info? 54).map (fun i => (i.zero, i.size, i.bytes)) = some (some (.agg #[.string ⟨#[]⟩, .int .i64 0, .int .i64 0]), 3, 32) := by kernel_rfl
/-- The keys of the first slots, and where each stands. -/
def keysL (S : Nat → ByteArray) : Nat → List (ByteArray × Nat)
  | 0 => []
  | n + 1 => keysL S n ++ (match keyV (S n) with | some k => [(k, n)] | none => [])
def cellsK (l : List (ByteArray × Nat)) : List Value := l.flatMap fun p => [.string p.1, .int .i64 0, .int .i64 p.2]
theorem cellsK_len (l : List (ByteArray × Nat)) : (cellsK l).length = l.length * 3 := by
  induction l with
  | nil => rfl
  | cons a l ih => show ([_, _, _] ++ cellsK l).length = _; rw [List.length_append, ih]; simp; omega
theorem cellsK_app (l m : List (ByteArray × Nat)) : cellsK (l ++ m) = cellsK l ++ cellsK m := List.flatMap_append
theorem keysL_len (S : Nat → ByteArray) : ∀ n, (keysL S n).length ≤ n
  | 0 => Nat.le_refl _
  | n + 1 => by
    have := keysL_len S n
    unfold keysL
    rw [List.length_append]
    split <;> simp <;> omega
theorem keysL_some {S : Nat → ByteArray} {n : Nat} {k : ByteArray} (h : keyV (S n) = some k) : keysL S (n + 1) = keysL S n ++ [(k, n)] := by
  show keysL S n ++ (match keyV (S n) with | some k => [(k, n)] | none => []) = _
  rw [h]
theorem keysL_none {S : Nat → ByteArray} {n : Nat} (h : keyV (S n) = none) : keysL S (n + 1) = keysL S n := by
  show keysL S n ++ (match keyV (S n) with | some k => [(k, n)] | none => []) = _
  rw [h, List.append_nil]
/-- What Keys tells. -/
def keysOf (a1 : Int) (S : Nat → ByteArray) (len : Nat) : List (ByteArray × Nat) := if a1 = 2 then keysL S len else []
/-- A list of entries of the call's own. -/
abbrev ownE (w : World) (B : Nat) (v : Value) (l : List (ByteArray × Nat)) : Prop := w.ownsRow B 54 3 v l.length (cellsK l)
theorem ownE_below {w w' : World} {B : Nat} {v : Value} {l : List (ByteArray × Nat)} (h : ownE w B v l) (hb : Below w.heap.size w w') : ownE w' B v l :=
  h.kept (grown_of hb) (by cases v.ownBlock <;> simp)

set_option maxHeartbeats 4000000 in
theorem keys_c (a0 a1 a2 a3 : Int) (h : ByteArray) (ao : Option Addr) (len cap : Nat) (S : Nat → ByteArray) (w : World) (hlen : len ≤ 4398046511000) (hs : StrsIn w ao len S) :
    Calls Try.prog 13 #[.agg #[.int .i64 a0, .int .i64 a1, .int .i64 a2, .int .i64 a3, .string h, .slice ao len cap]] w fun e w' => ∃ v, e = .returned v ∧ ownE w' w.heap.size v (keysOf a1 S len) ∧ Below w.heap.size w w' := by
  have H0 : Hid (PB w (w.alloc (.cells #[.int .i64 a0, .int .i64 a1, .int .i64 a2, .int .i64 a3, .string h, .slice ao len cap] 24)) w.heap.size a0 a1 a2 a3 h ao len cap S) := PB.new w a0 a1 a2 a3 h ao len cap S hs
  obtain ⟨c0, c1, c2, c3, c4, c5⟩ := H0.out.cell
  have HS := Lib.hid hs
  clear hs
  by_cases ha1 : a1 = 2
  · subst ha1
    have HR : Hid (keysOf 2 S len = keysL S len) := by unfold Hid keysOf; rw [if_pos rfl]
    rw [HR.out]
    clear HR
    go_enter Try.func13, Try.ntmps13
    go_wp2_with fail
    generalize w.alloc (.cells #[.int .i64 a0, .int .i64 2, .int .i64 a2, .int .i64 a3, .string h, .slice ao len cap] 24) = wb at *
    clear c0 c1 c2 c3 c4 c5
    have HB0 : Hid (Below w.heap.size w wb) := H0.out.bel
    clear H0
    go_loopw [3, 14] (fun o i wr => ∃ k : Nat, k ≤ len ∧ i = .int .i64 k ∧ Hid (ownE wr w.heap.size o (keysL S k) ∧ Below w.heap.size w wr)) (fun _ i _ => len - (intOf i).toNat)
    case atStart => exact ⟨0, Nat.zero_le _, rfl, World.ownsRow_nil _ _ _ _, HB0.out⟩
    case round =>
      obtain ⟨k, hk, rfl, HK⟩ := hrel
      by_cases hlt : k < len
      · obtain ⟨b, off, rfl, hc, hsz⟩ := (HS.out.below HK.out.2 rfl) k hlt
        have F := Lib.hid (fun w' => key_c (S k) w' hsz)
        clear hsz
        go_wp2_with fail
        refine (F.out _).mono ?_
        rintro e w2 ⟨rfl, hb2⟩
        have HV := Lib.hid (ownE_below HK.out.1 hb2)
        have HB := Lib.hid (HK.out.2.trans (hb2.mono HK.out.2.size))
        clear hb2 HK F hc
        cases hkv : keyV (S k) with
        | none =>
          have HL := Lib.hid (keysL_none hkv)
          unfold burRes
          clear hkv
          go_wp2_with fail
          go_roundw
          case rel => exact ⟨k + 1, by omega, by go_num, by rw [HL.out]; exact HV.out, HB.out⟩
          case measure => simp [intOf]; omega
        | some key =>
          have HL := Lib.hid (keysL_some hkv)
          have hll := keysL_len S k
          unfold burRes
          clear hkv
          obtain ⟨i0, hi, hz0, hz1, hz2⟩ := info_parts info_ent
          have ha : Below w2.heap.size w2 (w2.alloc (.cells #[.string key, .int .i64 0, .int .i64 k] 54)) := (Below.refl _ _).alloc (Nat.le_refl _) _
          have hq := heap_alloc_new w2 (.cells #[.string key, .int .i64 0, .int .i64 k] 54)
          have HVa := Lib.hid (ownE_below HV.out ha)
          have HBa := Lib.hid (HB.out.trans (ha.mono HB.out.size))
          have hnews : ∀ (j : Nat) u, [Value.string key, .int .i64 0, .int .i64 k][j]? = some u → (w2.alloc (.cells #[.string key, .int .i64 0, .int .i64 k] 54)).cell? ((⟨w2.heap.size, 0, none⟩ : Addr).add j) = some u := fun j u hj => by
            match j, hj with
            | 0, hj => simp at hj; subst hj; rw [Addr.add_lit]; simp only [World.cell?, hq]; rfl
            | 1, hj => simp at hj; subst hj; rw [Addr.add_lit]; simp only [World.cell?, hq]; rfl
            | 2, hj => simp at hj; subst hj; rw [Addr.add_lit]; simp only [World.cell?, hq]; rfl
          have hone : ∀ u ∈ [Value.string key, .int .i64 0, .int .i64 k], u.oneCell' = true := fun u hu => by simp at hu; rcases hu with rfl | rfl | rfl <;> rfl
          have HSZ := Lib.hid (Nat.le_trans HB.out.size ha.size)
          clear ha hq
          go_wp2_with (at_builtin; refine wpList_append_own _ rfl _ _ 49 rfl w.heap.size 54 i0 (.agg #[.string ⟨#[]⟩, .int .i64 0, .int .i64 0]) 3 32 Try.underlying49 hi hz0 hz1 hz2 rfl (by decide) _ _ _ rfl HVa.out ⟨w2.heap.size, 0, none⟩ 1 1 [.string key, .int .i64 0, .int .i64 k] rfl rfl hnews hone (by unfold maxLen; omega) (by omega) HSZ.out ?_)
          intro v w3 hown hgrow hnil
          have HOW := Lib.hid hown
          have HB3 := Lib.hid (HBa.out.grown hgrow HBa.out.size (fun b hb => (HVa.out.lt b hb).1))
          clear hown hgrow hnil hnews hone
          go_wp2_with fail
          go_roundw
          case rel =>
            refine ⟨k + 1, by omega, by go_num, ?_, HB3.out⟩
            rw [HL.out]
            show World.ownsRow _ _ _ _ _ (keysL S k ++ [(key, k)]).length _
            rw [List.length_append, cellsK_app]
            exact HOW.out
          case measure => simp [intOf]; omega
      · have e : k = len := by omega
        subst e
        go_wp2_with fail
        go_ret
        exact ⟨_, rfl, HK.out.1, HK.out.2⟩
  · have HR : Hid (keysOf a1 S len = []) := by unfold Hid keysOf; rw [if_neg ha1]
    rw [HR.out]
    go_enter Try.func13, Try.ntmps13
    go_wp2_with fail
    go_ret
    exact ⟨_, rfl, World.ownsRow_nil _ _ _ _, H0.out.bel⟩
end Go.Proofs.Ytkjnjccjkjachaa
