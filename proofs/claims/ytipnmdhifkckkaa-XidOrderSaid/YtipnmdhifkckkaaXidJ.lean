/- One contract for Take and one for Freeze, whatever they answer: the counter and the reference's answer alike. -/
import Derived.Test.YtipnmdhifkckkaaXidI
namespace Go.Proofs.Ytipnmdhifkckkaa
open Go.RowKit
set_option linter.unusedSimpArgs false

/-- What Take answers, and the next id behind it; what Freeze answers, and the limit behind it. -/
def tkv (m n f : Int) : Int := if 0 < xleft m n f then n else 0
def tke (m n f : Int) : Int := if 0 < xleft m n f then 0 else 70
def tkn (m n f : Int) : Int := if 0 < xleft m n f then xadd m n 1 else n
def fze (m n f l : Int) : Int := if okf m n f l then 0 else 1
def fzf (m n f l : Int) : Int := if okf m n f l then l else f

/-- A counter's numbers hang together. -/
def OkC (m n f : Int) : Prop := okn m n f = true

theorem okc_left {m n f : Int} (h : OkC m n f) : 0 ≤ xleft m n f := by
  obtain ⟨_, _, _, h4⟩ := okn_bd h; unfold xleft; omega
theorem okc_take {m n f : Int} (h : OkC m n f) : OkC m (tkn m n f) f := by
  unfold tkn
  split
  · rename_i h0
    obtain ⟨h1, h2, h3, h4⟩ := okn_bd h
    obtain ⟨b1, b2, _⟩ := okm_bd h3
    unfold xleft at h0
    unfold OkC okn
    rw [xadd_ok h3 h1, h2, h3, xgap_next h3 h2 h1 (by omega) (by omega)]
    simp; omega
  · exact h
theorem xgap_split {m n f l : Int} (hm : okm m = true) (hn : okx m n = true) (hf : okx m f = true) (hl : okx m l = true) (h : xgap m f l ≤ xgap m f n) : xgap m l n = xgap m f n - xgap m f l := by
  obtain ⟨b1, b2, _⟩ := okm_bd hm
  rw [xgap_val hm hf hl, xgap_val hm hf hn] at h
  rw [xgap_val hm hl hn, xgap_val hm hf hl, xgap_val hm hf hn]
  have c1 := Int.emod_nonneg (n - f) (b := m) (by omega)
  have c2 := Int.emod_lt_of_pos (n - f) (b := m) (by omega)
  have c3 := Int.emod_nonneg (l - f) (b := m) (by omega)
  have e : (n - l) % m = ((n - f) % m - (l - f) % m) % m := by
    rw [Int.emod_sub_emod, Int.sub_emod_emod]; congr 1; omega
  rw [e, Int.emod_eq_of_lt (by omega) (by omega)]
theorem okc_freeze {m n f l : Int} (h : OkC m n f) : OkC m n (fzf m n f l) := by
  unfold fzf
  split
  · rename_i h0
    obtain ⟨h1, h2, h3, h4⟩ := okn_bd h
    obtain ⟨l1, l2⟩ := Bool.and_eq_true_iff.1 h0
    have l2' : xgap m f l ≤ xgap m f n := by simpa using l2
    have g := xgap_bd m f l
    unfold OkC okn
    rw [h1, l1, h3, xgap_split h3 h1 h2 l1 l2']
    simp; omega
  · exact h

theorem take_c (b : Nat) (m n f : Int) (w : World) (h : Ctr w b m n f) (hc : OkC m n f) :
    Calls Try.prog 17 #[.pointer (some ⟨b, 0, none⟩)] w fun e w' => e = .returned (.tuple #[.int .i64 (tkv m n f), .int .i64 (tke m n f)]) ∧ Ctr w' b m (tkn m n f) f ∧ w.grownBy w' (some b) := by
  unfold tkv tke tkn
  obtain ⟨h1, h2, h3, h4⟩ := okn_bd hc
  split
  · rename_i h0; exact take_yes b m n f w h h3 h0
  · rename_i h0
    refine (take_no b m n f w h h3 (by omega)).mono ?_
    rintro e w' ⟨rfl, hb⟩
    exact ⟨rfl, h.below hb, grown_row (grown_of hb) _⟩
theorem rtake_c (b : Nat) (m n f : Int) (w : World) (h : Ctr w b m n f) (hc : OkC m n f) :
    Calls Try.prog 22 #[.pointer (some ⟨b, 0, none⟩)] w fun e w' => e = .returned (.tuple #[.int .i64 (tkv m n f), .int .i64 (tke m n f)]) ∧ Ctr w' b m (tkn m n f) f ∧ w.grownBy w' (some b) := by
  unfold tkv tke tkn
  have hl := okc_left hc
  obtain ⟨h1, h2, h3, h4⟩ := okn_bd hc
  split
  · rename_i h0; exact rtake_yes b m n f w h h3 (by omega)
  · rename_i h0
    refine (rtake_no b m n f w h h3 (by omega)).mono ?_
    rintro e w' ⟨rfl, hb⟩
    exact ⟨rfl, h.below hb, grown_row (grown_of hb) _⟩
theorem freeze_c (b : Nat) (m n f l : Int) (w : World) (h : Ctr w b m n f) (hc : OkC m n f) :
    Calls Try.prog 19 #[.pointer (some ⟨b, 0, none⟩), .int .i64 l] w fun e w' => e = .returned (.int .i64 (fze m n f l)) ∧ Ctr w' b m n (fzf m n f l) ∧ w.grownBy w' (some b) := by
  unfold fze fzf
  obtain ⟨h1, h2, h3, h4⟩ := okn_bd hc
  by_cases h0 : okf m n f l = true
  · rw [if_pos h0, if_pos h0]; exact freeze_yes b m n f l w h h3 h0
  · rw [if_neg h0, if_neg h0]
    by_cases hx : okx m l = true
    · have hg : xgap m f n < xgap m f l := by
        unfold okf at h0; rw [hx] at h0; simpa using h0
      refine (freeze_no2 b m n f l w h h3 hx hg).mono ?_
      rintro e w' ⟨rfl, hb⟩
      exact ⟨rfl, h.kept hb (by simp), grown_row hb _⟩
    · refine (freeze_no1 b m n f l w h (by simpa using hx)).mono ?_
      rintro e w' ⟨rfl, hb⟩
      exact ⟨rfl, h.kept hb (by simp), grown_row hb _⟩
theorem rfreeze_c (b : Nat) (m n f l : Int) (w : World) (h : Ctr w b m n f) (_hc : OkC m n f) :
    Calls Try.prog 23 #[.pointer (some ⟨b, 0, none⟩), .int .i64 l] w fun e w' => e = .returned (.int .i64 (fze m n f l)) ∧ Ctr w' b m n (fzf m n f l) ∧ w.grownBy w' (some b) := by
  unfold fze fzf
  by_cases h0 : okf m n f l = true
  · rw [if_pos h0, if_pos h0]; exact rfreeze_yes b m n f l w h h0
  · rw [if_neg h0, if_neg h0]
    by_cases hx : okx m l = true
    · have hg : xgap m f n < xgap m f l := by
        unfold okf at h0; rw [hx] at h0; simpa using h0
      refine (rfreeze_no2 b m n f l w h hx hg).mono ?_
      rintro e w' ⟨rfl, hb⟩
      exact ⟨rfl, h.kept hb (by simp), grown_row hb _⟩
    · refine (rfreeze_no1 b m n f l w h (by simpa using hx)).mono ?_
      rintro e w' ⟨rfl, hb⟩
      exact ⟨rfl, h.kept hb (by simp), grown_row hb _⟩
end Go.Proofs.Ytipnmdhifkckkaa
