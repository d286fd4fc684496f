/- Statuses: put. -/
import Derived.Test.YtpmhcpphbilokaaClogA
import Derived.Test.YtpmhcpphbilokaaClogP
import Derived.StillTailTactics
namespace Go.Proofs.Ytpmhcpphbilokaa
open Go.RowKit
set_option linter.unusedSimpArgs false
set_option maxRecDepth 100000

/-- Bytes lie in a block that may be written. -/
structure BV (w : World) (g : Nat) (l : List UInt8) : Prop where
  cell : ∀ j (h : j < l.length), w.cell? ⟨g, j, none⟩ = some (.int .u8 l[j].toNat)
  fr : ∀ j, j < l.length → w.frozen? ⟨g, j, none⟩ = false
  lt : g < w.heap.size
theorem BV.grown {w w' : World} {g : Nat} {l : List UInt8} (h : BV w g l) {row : Option Nat} (hg : w.grownBy w' row) (hr : some g ≠ row) : BV w' g l :=
  ⟨fun j hj => grown_at hg (h.cell j hj) hr, fun j hj => (grown_fr (a := ⟨g, j, none⟩) hg h.lt hr).trans (h.fr j hj), Nat.lt_of_lt_of_le h.lt hg.size⟩
theorem BV.below {w w' : World} {g : Nat} {l : List UInt8} (h : BV w g l) (hb : Below w.heap.size w w') : BV w' g l := h.grown (grown_of hb) (by simp)
theorem BV.set {w : World} {g : Nat} {l : List UInt8} (h : BV w g l) (i : Nat) (b : UInt8) (z : Int) (hz : z = b.toNat) (hi : i < l.length) : BV (w.setCell ⟨g, i, none⟩ (.int .u8 z)) g (l.set i b) := by
  subst hz
  refine ⟨fun j hj => ?_, fun j hj => ?_, ?_⟩
  · rw [List.length_set] at hj
    simp only [List.getElem_set]
    split
    · rename_i e; subst e; exact set_same _ (h.cell i hi)
    · rename_i e; exact set_other _ (by intro q; injection q with _ q2; exact e q2) (h.cell j hj)
  · rw [List.length_set] at hj
    rw [World.frozen?_setCell]; exact h.fr j hj
  · have := h.lt; simp [World.setCell]; omega
theorem put0 : ∀ (c : Fin 256) (s : Fin 4), bits .or .u8 (bits .andNot .u8 ((c : Nat) : Int) 3) (((s : Nat) : Int)) = ((UInt8.ofNat (putN c 0 s)).toNat : Int) := by decide
theorem put1 : ∀ (c : Fin 256) (s : Fin 4), bits .or .u8 (bits .andNot .u8 ((c : Nat) : Int) 12) (((s : Nat) : Int) * 4) = ((UInt8.ofNat (putN c 1 s)).toNat : Int) := by decide
theorem put2 : ∀ (c : Fin 256) (s : Fin 4), bits .or .u8 (bits .andNot .u8 ((c : Nat) : Int) 48) (((s : Nat) : Int) * 16) = ((UInt8.ofNat (putN c 2 s)).toNat : Int) := by decide
theorem put3 : ∀ (c : Fin 256) (s : Fin 4), bits .or .u8 (bits .andNot .u8 ((c : Nat) : Int) 192) (((s : Nat) : Int) * 64) = ((UInt8.ofNat (putN c 3 s)).toNat : Int) := by decide

set_option maxHeartbeats 1000000 in
theorem put_k0 (g cap : Nat) (l : List UInt8) (x i : Nat) (s : Nat) (w : World) (hv : BV w g l) (hx : 1 ≤ x ∧ x ≤ 1024) (hi : i = (x - 1) / 4) (hl : i < l.length) (hs : s ≤ 3) (hk : (x - 1) % 4 = 0) :
    Calls Try.prog 31 #[.slice (some ⟨g, 0, none⟩) l.length cap, .int .i64 x, .int .u8 s] w fun e w' => e = .returned (.tuple #[]) ∧ BV w' g (l.set i (UInt8.ofNat (putN l[i].toNat 0 s))) ∧ w.grownBy w' (some g) := by
  have hp := place_c x w hx
  rw [hk, ← hi] at hp
  have hc : w.drew.cell? ⟨g, i, none⟩ = some (.int .u8 l[i].toNat) := hv.cell i hl
  have hf : w.drew.frozen? ⟨g, i, none⟩ = false := hv.fr i hl
  have HP := Lib.hid hp
  have HV : Hid (BV w.drew g l) := ⟨hv.cell, hv.fr, hv.lt⟩
  have HG : Hid (w.grownBy w.drew (some g)) := grown_drew (grown_refl w _)
  have HQ := Lib.hid (put0 ⟨l[i].toNat, l[i].toNat_lt⟩ ⟨s, by omega⟩)
  have hli : (i : Int) < (l.length : Int) := by omega
  have HL := Lib.hid hl
  clear hp hv hk hi hx
  go_enter Try.func31, Try.ntmps31
  go_wp2_with fail
  refine HP.out.mono ?_
  rintro e w1 ⟨rfl, rfl⟩
  go_wp2_with fail
  go_still_tail 14, (by kernel_rfl)
  change wpList _ _ _ _ _ w.drew
  generalize w.drew = w2 at *
  go_wp2_with fail
  go_returns
  refine ⟨rfl, HV.out.set i _ _ ?_ HL.out, grown_trans HG.out (grown_set _ _ _ _)⟩
  exact HQ.out

set_option maxHeartbeats 1000000 in
theorem put_k1 (g cap : Nat) (l : List UInt8) (x i : Nat) (s : Nat) (w : World) (hv : BV w g l) (hx : 1 ≤ x ∧ x ≤ 1024) (hi : i = (x - 1) / 4) (hl : i < l.length) (hs : s ≤ 3) (hk : (x - 1) % 4 = 1) :
    Calls Try.prog 31 #[.slice (some ⟨g, 0, none⟩) l.length cap, .int .i64 x, .int .u8 s] w fun e w' => e = .returned (.tuple #[]) ∧ BV w' g (l.set i (UInt8.ofNat (putN l[i].toNat 1 s))) ∧ w.grownBy w' (some g) := by
  have hp := place_c x w hx
  rw [hk, ← hi] at hp
  have hc : w.drew.cell? ⟨g, i, none⟩ = some (.int .u8 l[i].toNat) := hv.cell i hl
  have hf : w.drew.frozen? ⟨g, i, none⟩ = false := hv.fr i hl
  have HP := Lib.hid hp
  have HV : Hid (BV w.drew g l) := ⟨hv.cell, hv.fr, hv.lt⟩
  have HG : Hid (w.grownBy w.drew (some g)) := grown_drew (grown_refl w _)
  have HQ := Lib.hid (put1 ⟨l[i].toNat, l[i].toNat_lt⟩ ⟨s, by omega⟩)
  have hli : (i : Int) < (l.length : Int) := by omega
  have HL := Lib.hid hl
  clear hp hv hk hi hx
  go_enter Try.func31, Try.ntmps31
  go_wp2_with fail
  refine HP.out.mono ?_
  rintro e w1 ⟨rfl, rfl⟩
  go_wp2_with fail
  go_still_tail 14, (by kernel_rfl)
  change wpList _ _ _ _ _ w.drew
  generalize w.drew = w2 at *
  go_wp2_with fail
  go_returns
  refine ⟨rfl, HV.out.set i _ _ ?_ HL.out, grown_trans HG.out (grown_set _ _ _ _)⟩
  exact HQ.out

set_option maxHeartbeats 1000000 in
theorem put_k2 (g cap : Nat) (l : List UInt8) (x i : Nat) (s : Nat) (w : World) (hv : BV w g l) (hx : 1 ≤ x ∧ x ≤ 1024) (hi : i = (x - 1) / 4) (hl : i < l.length) (hs : s ≤ 3) (hk : (x - 1) % 4 = 2) :
    Calls Try.prog 31 #[.slice (some ⟨g, 0, none⟩) l.length cap, .int .i64 x, .int .u8 s] w fun e w' => e = .returned (.tuple #[]) ∧ BV w' g (l.set i (UInt8.ofNat (putN l[i].toNat 2 s))) ∧ w.grownBy w' (some g) := by
  have hp := place_c x w hx
  rw [hk, ← hi] at hp
  have hc : w.drew.cell? ⟨g, i, none⟩ = some (.int .u8 l[i].toNat) := hv.cell i hl
  have hf : w.drew.frozen? ⟨g, i, none⟩ = false := hv.fr i hl
  have HP := Lib.hid hp
  have HV : Hid (BV w.drew g l) := ⟨hv.cell, hv.fr, hv.lt⟩
  have HG : Hid (w.grownBy w.drew (some g)) := grown_drew (grown_refl w _)
  have HQ := Lib.hid (put2 ⟨l[i].toNat, l[i].toNat_lt⟩ ⟨s, by omega⟩)
  have hli : (i : Int) < (l.length : Int) := by omega
  have HL := Lib.hid hl
  clear hp hv hk hi hx
  go_enter Try.func31, Try.ntmps31
  go_wp2_with fail
  refine HP.out.mono ?_
  rintro e w1 ⟨rfl, rfl⟩
  go_wp2_with fail
  go_still_tail 14, (by kernel_rfl)
  change wpList _ _ _ _ _ w.drew
  generalize w.drew = w2 at *
  go_wp2_with fail
  go_returns
  refine ⟨rfl, HV.out.set i _ _ ?_ HL.out, grown_trans HG.out (grown_set _ _ _ _)⟩
  exact HQ.out

set_option maxHeartbeats 1000000 in
theorem put_k3 (g cap : Nat) (l : List UInt8) (x i : Nat) (s : Nat) (w : World) (hv : BV w g l) (hx : 1 ≤ x ∧ x ≤ 1024) (hi : i = (x - 1) / 4) (hl : i < l.length) (hs : s ≤ 3) (hk : (x - 1) % 4 = 3) :
    Calls Try.prog 31 #[.slice (some ⟨g, 0, none⟩) l.length cap, .int .i64 x, .int .u8 s] w fun e w' => e = .returned (.tuple #[]) ∧ BV w' g (l.set i (UInt8.ofNat (putN l[i].toNat 3 s))) ∧ w.grownBy w' (some g) := by
  have hp := place_c x w hx
  rw [hk, ← hi] at hp
  have hc : w.drew.cell? ⟨g, i, none⟩ = some (.int .u8 l[i].toNat) := hv.cell i hl
  have hf : w.drew.frozen? ⟨g, i, none⟩ = false := hv.fr i hl
  have HP := Lib.hid hp
  have HV : Hid (BV w.drew g l) := ⟨hv.cell, hv.fr, hv.lt⟩
  have HG : Hid (w.grownBy w.drew (some g)) := grown_drew (grown_refl w _)
  have HQ := Lib.hid (put3 ⟨l[i].toNat, l[i].toNat_lt⟩ ⟨s, by omega⟩)
  have hli : (i : Int) < (l.length : Int) := by omega
  have HL := Lib.hid hl
  clear hp hv hk hi hx
  go_enter Try.func31, Try.ntmps31
  go_wp2_with fail
  refine HP.out.mono ?_
  rintro e w1 ⟨rfl, rfl⟩
  go_wp2_with fail
  go_still_tail 14, (by kernel_rfl)
  change wpList _ _ _ _ _ w.drew
  generalize w.drew = w2 at *
  go_wp2_with fail
  go_returns
  refine ⟨rfl, HV.out.set i _ _ ?_ HL.out, grown_trans HG.out (grown_set _ _ _ _)⟩
  exact HQ.out

theorem put_c (g cap : Nat) (l : List UInt8) (x : Nat) (s : Nat) (w : World) (hv : BV w g l) (hx : 1 ≤ x ∧ x ≤ 1024) (hl : (x - 1) / 4 < l.length) (hs : s ≤ 3) :
    Calls Try.prog 31 #[.slice (some ⟨g, 0, none⟩) l.length cap, .int .i64 x, .int .u8 s] w fun e w' => e = .returned (.tuple #[]) ∧ BV w' g (l.set ((x - 1) / 4) (UInt8.ofNat (putN l[(x - 1) / 4].toNat ((x - 1) % 4) s))) ∧ w.grownBy w' (some g) := by
  have hk : (x - 1) % 4 < 4 := by omega
  rcases (by omega : (x - 1) % 4 = 0 ∨ (x - 1) % 4 = 1 ∨ (x - 1) % 4 = 2 ∨ (x - 1) % 4 = 3) with h | h | h | h
  · rw [h]; exact put_k0 g cap l x _ s w hv hx rfl hl hs h
  · rw [h]; exact put_k1 g cap l x _ s w hv hx rfl hl hs h
  · rw [h]; exact put_k2 g cap l x _ s w hv hx rfl hl hs h
  · rw [h]; exact put_k3 g cap l x _ s w hv hx rfl hl hs h
/-- The same, over statuses. -/
theorem putf_c (g cap n : Nat) (f : Nat → Nat) (x : Nat) (s : Nat) (w : World) (hf : ∀ i, f i ≤ 3) (hv : BV w g (bsOf f n)) (hx : 1 ≤ x ∧ x ≤ 1024) (hl : x ≤ 4 * n) (hs : s ≤ 3) :
    Calls Try.prog 31 #[.slice (some ⟨g, 0, none⟩) n cap, .int .i64 x, .int .u8 s] w fun e w' => e = .returned (.tuple #[]) ∧ BV w' g (bsOf (upd f (x - 1) s) n) ∧ w.grownBy w' (some g) := by
  have hl' : (x - 1) / 4 < (bsOf f n).length := by rw [bsOf_len]; omega
  have h := put_c g cap (bsOf f n) x s w hv hx hl' hs
  rw [bsOf_len] at h
  rw [bsOf_upd hf hs]
  rw [bsOf_nat hf] at h
  exact h
end Go.Proofs.Ytpmhcpphbilokaa
