/- The contracts of a Counter of package xid: New, Take, Freeze, Next, Frozen, Left. -/
import Derived.Test.YtipnmdhifkckkaaXidB
namespace Go.Proofs.Ytipnmdhifkckkaa
open Go.RowKit

/-- A counter in block b: its modulus, next id and limit. -/
structure Ctr (w : World) (b : Nat) (m n f : Int) : Prop where
  c0 : w.cell? ⟨b, 0, none⟩ = some (.int .i64 m)
  c1 : w.cell? ⟨b, 1, none⟩ = some (.int .i64 n)
  c2 : w.cell? ⟨b, 2, none⟩ = some (.int .i64 f)
  fr : ∀ o, w.frozen? ⟨b, o, none⟩ = false
  lt : b < w.heap.size

theorem Ctr.kept {w w' : World} {b : Nat} {m n f : Int} (h : Ctr w b m n f) {row : Option Nat} (hg : w.grownBy w' row) (hr : some b ≠ row) : Ctr w' b m n f :=
  ⟨grown_at hg h.c0 hr, grown_at hg h.c1 hr, grown_at hg h.c2 hr, fun o => (grown_fr (a := ⟨b, o, none⟩) hg h.lt hr).trans (h.fr o), Nat.lt_of_lt_of_le h.lt hg.size⟩
theorem Ctr.below {w w' : World} {b : Nat} {m n f : Int} (h : Ctr w b m n f) (hg : Below w.heap.size w w') : Ctr w' b m n f := h.kept (grown_of hg) (by simp)
theorem Ctr.alloc {w : World} {b : Nat} {m n f : Int} (h : Ctr w b m n f) (o : Obj) : Ctr (w.alloc o) b m n f := h.kept (grown_alloc w o none) (by simp)
theorem Ctr.drew {w : World} {b : Nat} {m n f : Int} (h : Ctr w b m n f) : Ctr w.drew b m n f := h.kept (grown_drew (grown_refl w none)) (by simp)
theorem Ctr.setN {w : World} {b : Nat} {m n f : Int} (h : Ctr w b m n f) (v : Int) : Ctr (w.setCell ⟨b, 1, none⟩ (.int .i64 v)) b m v f :=
  ⟨set_other _ (by simp) h.c0, set_same _ h.c1, set_other _ (by simp) h.c2, fun o => by rw [World.frozen?_setCell]; exact h.fr o, by simpa [World.setCell] using h.lt⟩
theorem Ctr.setF {w : World} {b : Nat} {m n f : Int} (h : Ctr w b m n f) (v : Int) : Ctr (w.setCell ⟨b, 2, none⟩ (.int .i64 v)) b m n v :=
  ⟨set_other _ (by simp) h.c0, set_other _ (by simp) h.c1, set_same _ h.c2, fun o => by rw [World.frozen?_setCell]; exact h.fr o, by simpa [World.setCell] using h.lt⟩

/-- How many ids may still be given. -/
def xleft (m n f : Int) : Int := m / 2 - 2 - xgap m f n

theorem left_eq (m g : Int) (b1 : 16 ≤ m) (b2 : m ≤ 1024) (g1 : 0 ≤ g) (g2 : g ≤ 1024) : IntKind.i64.wrap (IntKind.i64.wrap (IntKind.i64.wrap (m.tdiv 2) - 2) - g) = m / 2 - 2 - g := by
  rw [Int.tdiv_eq_ediv_of_nonneg (by omega), IntWalk.i64_in (m / 2) ⟨by omega, by omega⟩, IntWalk.i64_in (m / 2 - 2) ⟨by omega, by omega⟩, IntWalk.i64_in _ ⟨by omega, by omega⟩]

set_option maxHeartbeats 400000 in
theorem left_c (b : Nat) (m n f : Int) (w : World) (h : Ctr w b m n f) (hm : okm m = true) :
    Calls Try.prog 20 #[.pointer (some ⟨b, 0, none⟩)] w fun e w' => e = .returned (.int .i64 (xleft m n f)) ∧ Below w.heap.size w w' := by
  obtain ⟨b1, b2, _⟩ := okm_bd hm
  obtain ⟨g1, g2, g3⟩ := xgap_bd m f n
  have HE : Hid (xleft m n f = m / 2 - 2 - xgap m f n) := rfl
  obtain ⟨c0, c1, c2, fr, lt⟩ := h
  clear g3 hm
  go_enter Try.func20, Try.ntmps20
  go_wp2_with fail
  go_region_held3 (fun w' => w'.cell? ⟨b, 0, none⟩ = some (.int .i64 m) ∧ w'.cell? ⟨b, 1, none⟩ = some (.int .i64 n) ∧ w'.cell? ⟨b, 2, none⟩ = some (.int .i64 f))
    ((first | (go_keep; done) | exact ⟨bel_at hb (by simpa using c0), bel_at hb (by simpa using c1), bel_at hb (by simpa using c2)⟩))
    (first | (go_at_call 11; refine (gap_c m f n _).mono ?_; rintro e w' ⟨rfl, hb⟩))
  go_wp2
  go_ret
  exact ⟨retI (by rw [HE.out]; exact left_eq m _ b1 b2 g1 g2), (Below.refl _ _).drew.trans hb⟩

theorem left_nil (w : World) :
    Calls Try.prog 20 #[.pointer none] w fun e w' => e = .returned (.int .i64 0) ∧ w = w' := by
  go_enter Try.func20, Try.ntmps20
  go_wp2
  go_ret
  exact ⟨rfl, rfl⟩

theorem next_c (b : Nat) (m n f : Int) (w : World) (h : Ctr w b m n f) :
    Calls Try.prog 18 #[.pointer (some ⟨b, 0, none⟩)] w fun e w' => e = .returned (.int .i64 n) ∧ w = w' := by
  obtain ⟨c0, c1, c2, fr, lt⟩ := h
  go_enter Try.func18, Try.ntmps18
  go_wp2
  go_ret
  exact ⟨rfl, rfl⟩
theorem next_nil (w : World) :
    Calls Try.prog 18 #[.pointer none] w fun e w' => e = .returned (.int .i64 0) ∧ w = w' := by
  go_enter Try.func18, Try.ntmps18
  go_wp2
  go_ret
  exact ⟨rfl, rfl⟩
theorem frozen_c (b : Nat) (m n f : Int) (w : World) (h : Ctr w b m n f) :
    Calls Try.prog 24 #[.pointer (some ⟨b, 0, none⟩)] w fun e w' => e = .returned (.int .i64 f) ∧ w = w' := by
  obtain ⟨c0, c1, c2, fr, lt⟩ := h
  go_enter Try.func24, Try.ntmps24
  go_wp2
  go_ret
  exact ⟨rfl, rfl⟩
theorem frozen_nil (w : World) :
    Calls Try.prog 24 #[.pointer none] w fun e w' => e = .returned (.int .i64 0) ∧ w = w' := by
  go_enter Try.func24, Try.ntmps24
  go_wp2
  go_ret
  exact ⟨rfl, rfl⟩

theorem take_nil (w : World) :
    Calls Try.prog 17 #[.pointer none] w fun e w' => e = .returned (.tuple #[.int .i64 0, .int .i64 2]) ∧ w = w' := by
  go_enter Try.func17, Try.ntmps17
  go_wp2
  go_ret2
  exact ⟨rfl, rfl⟩
theorem freeze_nil (l : Int) (w : World) :
    Calls Try.prog 19 #[.pointer none, .int .i64 l] w fun e w' => e = .returned (.int .i64 2) ∧ w = w' := by
  go_enter Try.func19, Try.ntmps19
  go_wp2
  go_ret
  exact ⟨rfl, rfl⟩

set_option maxHeartbeats 400000 in
theorem take_no (b : Nat) (m n f : Int) (w : World) (h : Ctr w b m n f) (hm : okm m = true) (hl : xleft m n f ≤ 0) :
    Calls Try.prog 17 #[.pointer (some ⟨b, 0, none⟩)] w fun e w' => e = .returned (.tuple #[.int .i64 0, .int .i64 70]) ∧ Below w.heap.size w w' := by
  go_enter Try.func17, Try.ntmps17
  go_wp2_with fail
  refine (left_c b m n f _ h hm).mono ?_
  rintro e w' ⟨rfl, hb⟩
  go_wp2_with fail
  go_ret2
  exact ⟨rfl, hb⟩

set_option maxHeartbeats 400000 in
theorem take_yes (b : Nat) (m n f : Int) (w : World) (h : Ctr w b m n f) (hm : okm m = true) (hl : 0 < xleft m n f) :
    Calls Try.prog 17 #[.pointer (some ⟨b, 0, none⟩)] w fun e w' => e = .returned (.tuple #[.int .i64 n, .int .i64 0]) ∧ Ctr w' b m (xadd m n 1) f ∧ w.grownBy w' (some b) := by
  go_enter Try.func17, Try.ntmps17
  go_wp2_with fail
  refine (left_c b m n f _ h hm).mono ?_
  rintro e w1 ⟨rfl, hb⟩
  have h1 := h.below hb
  obtain ⟨c0, c1, c2, fr, lt⟩ := h1
  go_wp2_with fail
  refine (add_c m n 1 _).mono ?_
  rintro e w2 ⟨rfl, hb2⟩
  have h2 := (h.below hb).below hb2
  obtain ⟨d0, d1, d2, fr2, lt2⟩ := h2
  clear c0 c1 c2 fr lt
  go_wp2_with fail
  go_ret2
  exact ⟨rfl, ((h.below hb).below hb2).setN _, grown_trans (grown_trans (grown_row (grown_of hb) _) (grown_row (grown_of hb2) _)) (grown_set _ _ _ _)⟩

/-- May the limit be moved so far? -/
def okf (m n f l : Int) : Bool := okx m l && decide (xgap m f l ≤ xgap m f n)

set_option maxHeartbeats 1000000 in
theorem freeze_yes (b : Nat) (m n f l : Int) (w : World) (h : Ctr w b m n f) (hm : okm m = true) (hl : okf m n f l = true) :
    Calls Try.prog 19 #[.pointer (some ⟨b, 0, none⟩), .int .i64 l] w fun e w' => e = .returned (.int .i64 0) ∧ Ctr w' b m n l ∧ w.grownBy w' (some b) := by
  obtain ⟨l1, l2⟩ := Bool.and_eq_true_iff.1 hl
  have hd : decide (xgap m f n < xgap m f l) = false := by simpa using l2
  have HD := Lib.hid hd; clear hd
  have HL : Hid ((okx m l && okm m) = true) := by unfold Hid; rw [l1, hm]; rfl
  have HC := Lib.hid h
  obtain ⟨c0, c1, c2, fr, lt⟩ := h
  clear hl l1 l2 hm
  go_enter Try.func19, Try.ntmps19
  go_wp2_with fail
  go_region_held3 (fun w' => w'.cell? ⟨b, 0, none⟩ = some (.int .i64 m) ∧ w'.cell? ⟨b, 1, none⟩ = some (.int .i64 n) ∧ w'.cell? ⟨b, 2, none⟩ = some (.int .i64 f))
    ((first | (go_keep; done) | (refine ⟨bel_at hb ?_, bel_at hb ?_, bel_at hb ?_⟩ <;> (first | (simp [go_sem, *]; done)))))
    (first | (go_at_call 26; refine (ids1_c m l _ _ _ (by simp)).mono ?_; rw [HL.out]; rintro e w' ⟨rfl, rfl⟩) | (go_at_call_of 11 (l); refine (gap_c m f l _).mono ?_; rintro e w' ⟨rfl, hb⟩; have hb1 := hb) | (go_at_call 11; refine (gap_c m f n _).mono ?_; rintro e w' ⟨rfl, hb⟩; have hb2 := hb))
  rw [HD.out]
  have hC := (((HC.out.alloc (.cells #[.int .i64 l] 3)).drew).below hb1).below hb2
  have hG := grown_trans (grown_trans (grown_trans (grown_trans (grown_refl w none) (grown_alloc w (.cells #[.int .i64 l] 3) none)) (grown_drew (grown_refl _ none))) (grown_of hb1)) (grown_of hb2)
  have HC2 := Lib.hid hC
  obtain ⟨d0, d1, d2, fr2, lt2⟩ := hC
  clear c0 c1 c2 fr lt
  go_wp2_with fail
  go_ret
  exact ⟨rfl, HC2.out.setF _, grown_trans (grown_row hG _) (grown_set _ _ _ _)⟩
end Go.Proofs.Ytipnmdhifkckkaa
