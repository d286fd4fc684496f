/- The writer's other contracts, and the reference's. -/
import Derived.Test.YtkjnjccjkjachaaBitsC
namespace Go.Proofs.Ytkjnjccjkjachaa
open Go.RowKit
set_option linter.unusedSimpArgs false
set_option maxRecDepth 100000

theorem new_c (w : World) :
    Calls Try.prog 31 #[] w fun e w' => e = .returned (.pointer (some ⟨w.heap.size, 0, none⟩)) ∧ WrV w' w.heap.size w'.heap.size 5 (.slice none 0 0) [] ∧ Below w.heap.size w w' ∧ w'.heap.size = w.heap.size + 1 := by
  go_enter Try.func31, Try.ntmps31
  go_wp2_with fail
  go_ret
  refine ⟨rfl, ⟨?_, ?_, World.ownsRow_nil _ _ _ 1, by simp, Nat.le_refl _⟩, (Below.refl _ w).alloc (Nat.le_refl _) _, by simp⟩
  · simp [go_sem]
  · simp [go_sem]

/-- A text that is laid. -/
def txl (s : ByteArray) : List UInt8 := sev s.size ++ s.data.toList
theorem sevs_size (s : ByteArray) : sevs [(s.size : Int)] = sev s.size := by rw [sevs_one]; simp

set_option maxHeartbeats 1000000 in
theorem text_c (bw B : Nat) (v : Value) (l : List UInt8) (s : ByteArray) (w : World) (hw : WrV w bw B 5 v l) (hs : s.size ≤ 140737488355328)
    (hlen : l.length + 9 + s.size ≤ 140737488355328) :
    Calls Try.prog 32 #[.pointer (some ⟨bw, 0, none⟩), .string s] w fun e w' => e = .returned (.tuple #[]) ∧ ∃ v', WS w v bw B 5 w' v' (l ++ txl s) := by
  have h1 := hw.lt
  have h2 := hw.le
  have h4 : ∀ g, v.ownBlock = some g → g < w.heap.size := fun g hg => (hw.own.lt g hg).2
  go_enter Try.func32, Try.ntmps32
  go_wp2_with fail
  refine (num_c bw B v l [(s.size : Int)] (some ⟨w.heap.size, 0, none⟩) 1 _ (hw.alloc _) ?_ ?_ ?_ (by simp; omega)).mono ?_
  · intro z hz; simp at hz; omega
  · intro j z hj
    match j, hj with
    | 0, hj => simp at hj; subst hj; exact ⟨_, rfl, by simp [Addr.add]⟩
    | (j + 1), hj => simp at hj
  · rintro ad ⟨⟩
    refine ⟨by simp; omega, ?_⟩
    intro h; have := h4 _ h.symm; simp at this
  rintro e w1 ⟨rfl, v1, hS⟩
  rw [sevs_size] at hS
  have HS : Hid (WS w v bw B 5 w1 v1 (l ++ sev s.size)) := ((WS.start hw).below ((Below.refl _ w).alloc (Nat.le_refl _) _)).trans hS
  have hc := HS.out.wr.cell
  have hl := sev_len (n := s.size) (by omega)
  clear hS hw
  have hl5 : (l ++ sev s.size).length + s.size ≤ 140737488355328 := by rw [List.length_append]; omega
  go_wp2_with (first | (at_builtin; refine wpList_ws_tx (w0 := w) (v0 := v) (bw := bw) (B := B) (v := v1) (l := l ++ sev s.size) rfl (.tmp 15) (.tmp 16) 46 5 9 rfl Try.bty Try.underlying9 rfl HS.out s rfl hl5 ?_))
  intro ao nn cc w3 hc3 hf3 HA
  have HA3 : Hid (WA w v bw B 5 w3 (.slice ao nn cc) (l ++ txl s)) := by unfold Hid txl; exact HA
  clear HA hc
  go_wp2_with fail
  go_returns
  exact ⟨rfl, _, HA3.out.fin⟩

set_option maxRecDepth 100000 in
theorem bytes_c (bw B : Nat) (v : Value) (l : List UInt8) (w : World) (hw : WrV w bw B 5 v l) :
    Calls Try.prog 33 #[.pointer (some ⟨bw, 0, none⟩)] w fun e w' => e = .returned (.string ⟨l.toArray⟩) ∧ w = w' := by
  have hc := hw.cell
  have HO := Lib.hid hw.own
  clear hw
  go_enter Try.func33, Try.ntmps33
  go_wp2_with fail
  rw [run_string_of w 46 9 5 Try.underlying46 Try.underlying5 Try.underlying9 HO.out]
  go_wp2_with fail
  go_ret
  exact ⟨rfl, rfl⟩

end Go.Proofs.Ytkjnjccjkjachaa
