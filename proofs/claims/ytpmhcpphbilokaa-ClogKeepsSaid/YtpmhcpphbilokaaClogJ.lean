/- Statuses: pages that are right, and what is done with them. -/
import Derived.Test.YtpmhcpphbilokaaClogI
namespace Go.Proofs.Ytpmhcpphbilokaa
open Go.RowKit
set_option linter.unusedSimpArgs false
set_option maxRecDepth 100000

theorem wpList_st_page' {ops : Array Oper} {rest : List Oper} {o : Oper} {a : Act} {w : World} {Q : Exit → Act → World → Prop} (hgd : o.guard = none) (x y : Operand) (ho : o.op = .store 25 x y)
    (b : Nat) (hx : a.eval x = .pointer (some ⟨b, 0, none⟩)) (c0 c1 c2 c3 : Int) (k : ByteArray) (u : Value) (hy : a.eval y = .agg #[.int .i64 c0, .int .i64 c1, .int .i64 c2, .int .i64 c3, .string k, u]) (hu : u.oneCell' = true) (H : IsPg w b)
    (h : ∀ w', PK w' b c0 c1 c2 c3 k u → w.grownBy w' (some b) → wpList Try.prog ops Q rest (a.put o.dst undef) w') : wpList Try.prog ops Q (o :: rest) a w :=
  wpList_st_page hgd x y ho b hx c0 c1 c2 c3 k u hy hu H (h _ (H.set6 _ _ _ _ _ _) (setP_grown _ _ _ _ _ _ _ _))

/-- A page that is right: its number, its limit, its statuses. -/
structure PR (m : Int) (w : World) (lsn F : Int) (f : Nat → Nat) (ao : Option Addr) (S : Nat → ByteArray) : Prop where
  it : StrsIn w ao 2 S
  s0 : S 0 = numS F
  s1 : S 1 = ⟨(bsOf f (sz m)).toArray⟩
  hm : okm m = true
  hF : okx m F = true
  hl : 0 ≤ lsn
  hf : okf f m.toNat
theorem PR.below {m : Int} {w w' : World} {lsn F : Int} {f : Nat → Nat} {ao : Option Addr} {S : Nat → ByteArray} (H : PR m w lsn F f ao S) (hb : Below w.heap.size w w') : PR m w' lsn F f ao S :=
  ⟨H.it.below hb rfl, H.s0, H.s1, H.hm, H.hF, H.hl, H.hf⟩
theorem StrsIn.blk {w : World} {ao : Option Addr} {n : Nat} {S : Nat → ByteArray} (h : StrsIn w ao n S) (hn : 0 < n) : ∃ b off, ao = some ⟨b, off, none⟩ ∧ b < w.heap.size := by
  obtain ⟨b, off, e, hc, _⟩ := h 0 hn
  exact ⟨b, off, e, World.block_lt_of_cell? w _ hc⟩
theorem StrsIn.grown {w w' : World} {ao : Option Addr} {n : Nat} {S : Nat → ByteArray} (h : StrsIn w ao n S) {g : Nat} (hg : w.grownBy w' (some g)) (hne : ∀ b off, ao = some ⟨b, off, none⟩ → b ≠ g) : StrsIn w' ao n S := fun i hi => by
  obtain ⟨b, off, e, hc, hs⟩ := h i hi
  exact ⟨b, off, e, grown_at hg hc (by have := hne b off e; simpa using this), hs⟩
theorem PR.op {m : Int} {w : World} {lsn F : Int} {f : Nat → Nat} {ao : Option Addr} {S : Nat → ByteArray} (H : PR m w lsn F f ao S) : opV m lsn 1 0 0 ⟨#[]⟩ 2 S = (0, F, bsOf f (sz m)) :=
  opV_pg H.hm H.hF H.hl H.hf H.s0 H.s1

theorem bs_upd_st {f : Nat → Nat} (h : ∀ i, f i ≤ 3) (n i s : Nat) : bsOf (upd (stOf (bsOf f n)) i s) n = bsOf (upd f i s) n :=
  bsOf_ext n (fun j hj => by unfold upd; split <;> first | rfl | exact st_bsOf h n j hj)
theorem cutN_ext (m F : Int) {f g : Nat → Nat} {B : Nat} (h : ∀ i, i < B → f i = g i) (n : Nat) : ∀ i, i < B → cutN m F f n i = cutN m F g n i := by
  induction n with
  | zero => exact h
  | succ n ih => intro i hi; show upd _ _ 0 i = upd _ _ 0 i; unfold upd; split <;> first | rfl | exact ih i hi
theorem bs_cut_st {f : Nat → Nat} (h : ∀ i, f i ≤ 3) (m F : Int) (n k : Nat) : bsOf (cutN m F (stOf (bsOf f n)) k) n = bsOf (cutN m F f k) n :=
  bsOf_ext n (cutN_ext m F (fun j hj => st_bsOf h n j hj) k)
/-- What is set, and what is cut, of a page that is right. -/
def setR (m lsn F : Int) (f : Nat → Nat) (x s : Int) : Int × Int × Int × List UInt8 := if okx m x = true ∧ s ≤ 3 then (0, lsn, F, bsOf (upd f (x - 1).toNat s.toNat) (sz m)) else (1, 0, 0, [])
def cutR (m lsn F : Int) (f : Nat → Nat) (x : Int) : Int × Int × Int × List UInt8 := if okx m x = true then (0, lsn, x, bsOf (cutN m F f (xgap m F x).toNat) (sz m)) else (1, 0, 0, [])
def getR (m : Int) (f : Nat → Nat) (x : Int) : Int × Int := if okx m x = true then (((f (x - 1).toNat : Nat) : Int), 0) else (0, 1)

theorem pr_set (m lsn F x s : Int) (f : Nat → Nat) (ao : Option Addr) (S : Nat → ByteArray) (w : World) (H : PR m w lsn F f ao S) (hs0 : 0 ≤ s) :
    Calls Try.prog 11 #[.int .i64 m, .agg #[.int .i64 lsn, .int .i64 1, .int .i64 0, .int .i64 0, .string ⟨#[]⟩, .slice ao 2 2], .int .i64 x, .int .u8 s] w fun e w' => POut w (setR m lsn F f x s) e w' := by
  have e : setV m lsn x s (opV m lsn 1 0 0 ⟨#[]⟩ 2 S) = setR m lsn F f x s := by
    rw [H.op]; unfold setV setR
    rw [if_neg (by simp)]
    split
    · rw [bs_upd_st H.hf.le]
    · rfl
  rw [← e]
  exact set_c m lsn 1 0 0 x s ⟨#[]⟩ ao 2 2 S w H.it hs0
theorem pr_cut (m lsn F x : Int) (f : Nat → Nat) (ao : Option Addr) (S : Nat → ByteArray) (w : World) (H : PR m w lsn F f ao S) :
    Calls Try.prog 13 #[.int .i64 m, .agg #[.int .i64 lsn, .int .i64 1, .int .i64 0, .int .i64 0, .string ⟨#[]⟩, .slice ao 2 2], .int .i64 x] w fun e w' => POut w (cutR m lsn F f x) e w' := by
  have e : cutV m lsn x (opV m lsn 1 0 0 ⟨#[]⟩ 2 S) = cutR m lsn F f x := by
    rw [H.op]; unfold cutV cutR
    rw [if_neg (by simp)]
    split
    · rw [bs_cut_st H.hf.le]
    · rfl
  rw [← e]
  exact cut_c m lsn 1 0 0 x ⟨#[]⟩ ao 2 2 S w H.it
theorem pr_get (m lsn F x : Int) (f : Nat → Nat) (ao : Option Addr) (S : Nat → ByteArray) (w : World) (H : PR m w lsn F f ao S) :
    Calls Try.prog 17 #[.int .i64 m, .agg #[.int .i64 lsn, .int .i64 1, .int .i64 0, .int .i64 0, .string ⟨#[]⟩, .slice ao 2 2], .int .i64 x] w fun e w' => e = .returned (.tuple #[.int .u8 (getR m f x).1, .int .i64 (getR m f x).2]) ∧ Below w.heap.size w w' := by
  have e : getV m x (opV m lsn 1 0 0 ⟨#[]⟩ 2 S) = getR m f x := by
    rw [H.op]; unfold getV getR
    rw [if_neg (by simp)]
    by_cases hx : okx m x = true
    · have hb := okx_bd hx
      have hs := sz_int H.hm
      rw [if_neg (by rw [hx]; simp), if_pos hx, st_bsOf H.hf.le _ _ (by omega)]
    · rw [if_pos (by simpa using hx), if_neg hx]
  rw [← e]
  exact get_c m lsn 1 0 0 x ⟨#[]⟩ ao 2 2 S w H.it
theorem pr_frozen (m lsn F : Int) (f : Nat → Nat) (ao : Option Addr) (S : Nat → ByteArray) (w : World) (H : PR m w lsn F f ao S) :
    Calls Try.prog 16 #[.int .i64 m, .agg #[.int .i64 lsn, .int .i64 1, .int .i64 0, .int .i64 0, .string ⟨#[]⟩, .slice ao 2 2]] w fun e w' => e = .returned (.tuple #[.int .i64 F, .int .i64 0]) ∧ Below w.heap.size w w' := by
  have h := frozen_c m lsn 1 0 0 ⟨#[]⟩ ao 2 2 S w H.it
  rw [H.op] at h
  exact h
theorem pr_check (m lsn F : Int) (f : Nat → Nat) (ao : Option Addr) (S : Nat → ByteArray) (w : World) (H : PR m w lsn F f ao S) :
    Calls Try.prog 20 #[.int .i64 m, .agg #[.int .i64 lsn, .int .i64 1, .int .i64 0, .int .i64 0, .string ⟨#[]⟩, .slice ao 2 2]] w fun e w' => e = .returned (.int .i64 0) ∧ Below w.heap.size w w' := by
  have h := check_c m lsn 1 0 0 ⟨#[]⟩ ao 2 2 S w H.it
  rw [H.op] at h
  exact h
theorem cutN_out {f : Nat → Nat} {m F : Int} {k : Nat} (h : okf f k) (n : Nat) : okf (cutN m F f n) k := by
  refine ⟨fun i => cutN_le h.le m F n i, ?_⟩
  induction n with
  | zero => exact h.out
  | succ n ih => intro i hi; show upd _ _ 0 i = 0; unfold upd; split <;> first | rfl | exact ih i hi
theorem set_ok {m : Int} {f : Nat → Nat} (hf : okf f m.toNat) {x s : Int} (hx : okx m x = true) (hs : s ≤ 3) : okf (upd f (x - 1).toNat s.toNat) m.toNat := by
  have := okx_bd hx
  exact upd_ok hf (by omega) (by omega)
/-- A page that came right is right. -/
theorem pr_of {m lsn F lsn' k : Int} {f : Nat → Nat} {w : World} {ao : Option Addr} {n : Nat} {S : Nat → ByteArray} (hp : PgS (0, lsn, F, bsOf f (sz m)) lsn' k n S) (hs : StrsIn w ao n S) (hm : okm m = true) (hF : okx m F = true) (hl : 0 ≤ lsn) (hf : okf f m.toNat) :
    lsn' = lsn ∧ k = 1 ∧ n = 2 ∧ PR m w lsn F f ao S := by
  obtain ⟨h1, h2, h3, h4, h5⟩ := hp.1 rfl
  subst h3
  exact ⟨h1, h2, rfl, hs, h4, h5, hm, hF, hl, hf⟩
/-- A new page's block. -/
theorem pg_new (w : World) : IsPg (w.alloc (.cells #[.int .i64 0, .int .i64 0, .int .i64 0, .int .i64 0, .string ⟨#[]⟩, .slice none 0 0] 25)) w.heap.size := (PK.new w 0 0 0 0 ⟨#[]⟩ (.slice none 0 0)).is
/-- Behind the store into a new block. -/
theorem new_below {w w' : World} {o : Obj} (hg : (w.alloc o).grownBy w' (some w.heap.size)) : Below w.heap.size w w' :=
  below_own (W := w) ((Below.refl _ w).alloc (Nat.le_refl _) _) (Nat.le_refl _) hg
end Go.Proofs.Ytpmhcpphbilokaa
