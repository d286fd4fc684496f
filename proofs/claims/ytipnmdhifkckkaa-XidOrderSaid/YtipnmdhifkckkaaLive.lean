/- A list of ints of the call's own, somewhere inside a block of the call's own: kept, read, cut at its head, appended to. -/
import Derived.Test.YtipnmdhifkckkaaBase
import Derived.ArgAppend
namespace Go.Proofs.Ytipnmdhifkckkaa
open Go.RowKit

/-- The slice value v holds the numbers xs; its block is numbered from B on. -/
def Live (w : World) (B : Nat) (e : TypeId) (v : Value) (xs : List Int) : Prop :=
  (v = .slice none 0 0 ∧ xs = []) ∨
  ∃ g o cap cur, v = .slice (some ⟨g, o, none⟩) xs.length cap ∧ B ≤ g ∧ w.heap[g]? = some (.cells cur e (0, 0)) ∧ xs.length ≤ cap ∧ o + cap ≤ cur.size ∧
    ∀ j, j < xs.length → cur[o + j]? = some (.int .i64 (xs.getD j 0))

theorem Live.kept {w w' : World} {B : Nat} {e : TypeId} {v : Value} {xs : List Int} (h : Live w B e v xs) {row : Option Nat} (hg : w.grownBy w' row) (hr : ∀ r, row = some r → r < B) : Live w' B e v xs := by
  rcases h with h | ⟨g, o, cap, cur, h1, h2, h3, h4⟩
  · exact .inl h
  · refine .inr ⟨g, o, cap, cur, h1, h2, ?_, h4⟩
    rw [hg.block g (Array.getElem?_eq_some_iff.1 h3).1 (fun e => by have := hr g e.symm; omega)]
    exact h3
theorem Live.below {w w' : World} {B : Nat} {e : TypeId} {v : Value} {xs : List Int} (h : Live w B e v xs) (hb : Below w.heap.size w w') : Live w' B e v xs := h.kept (grown_of hb) (by simp)

theorem Live.cell {w : World} {B : Nat} {e : TypeId} {v : Value} {xs : List Int} (h : Live w B e v xs) {g o cap : Nat} (hv : v = .slice (some ⟨g, o, none⟩) xs.length cap) (j : Nat) (hj : j < xs.length) : w.cell? ⟨g, o + j, none⟩ = some (.int .i64 (xs.getD j 0)) := by
  rcases h with ⟨h, _⟩ | ⟨g', o', cap', cur, h1, h2, h3, h4, h5, h6⟩
  · rw [h] at hv; simp at hv
  · rw [h1] at hv
    simp only [Value.slice.injEq, Option.some.injEq, Addr.mk.injEq, and_true, true_and] at hv
    obtain ⟨⟨rfl, rfl⟩, _⟩ := hv
    simp [World.cell?, h3, h6 j hj]

/-- What the value looks like. -/
theorem Live.shape {w : World} {B : Nat} {e : TypeId} {v : Value} {xs : List Int} (h : Live w B e v xs) : (v = .slice none 0 0 ∧ xs = []) ∨ ∃ g o cap, v = .slice (some ⟨g, o, none⟩) xs.length cap ∧ xs.length ≤ cap := by
  rcases h with h | ⟨g', o', cap', cur, h1, h2, h3, h4, h5, h6⟩
  · exact .inl h
  · exact .inr ⟨g', o', cap', h1, h4⟩

theorem Live.shape2 {w : World} {B : Nat} {e : TypeId} {v : Value} {xs : List Int} (h : Live w B e v xs) :
    ∃ ga cp, v = .slice ga xs.length cp ∧ (∀ j, j < xs.length → ∃ g o, ga = some ⟨g, o, none⟩) ∧ xs.length ≤ cp ∧ ((ga = none ∧ xs.length = 0 ∧ cp = 0) ∨ ∃ g o, ga = some ⟨g, o, none⟩) := by
  rcases h.shape with ⟨rfl, rfl⟩ | ⟨g, o, cap, rfl, hl⟩
  · exact ⟨none, 0, rfl, fun j hj => by simp at hj, by simp, .inl ⟨rfl, rfl, rfl⟩⟩
  · exact ⟨some ⟨g, o, none⟩, cap, rfl, fun _ _ => ⟨g, o, rfl⟩, hl, .inr ⟨g, o, rfl⟩⟩

theorem getD_drop (xs : List Int) (n j : Nat) : (xs.drop n).getD j 0 = xs.getD (n + j) 0 := by simp [List.getD]

theorem Live.drop {w : World} {B : Nat} {e : TypeId} {xs : List Int} {g o cap : Nat} (h : Live w B e (.slice (some ⟨g, o, none⟩) xs.length cap) xs) (n : Nat) (hn : n ≤ xs.length) :
    Live w B e (.slice (some ⟨g, o + n, none⟩) (xs.length - n) (cap - n)) (xs.drop n) := by
  rcases h with ⟨h, _⟩ | ⟨g', o', cap', cur, h1, h2, h3, h4, h5, h6⟩
  · simp at h
  · simp only [Value.slice.injEq, Option.some.injEq, Addr.mk.injEq, and_true, true_and] at h1
    obtain ⟨⟨rfl, rfl⟩, rfl⟩ := h1
    refine .inr ⟨g, o + n, cap - n, cur, by rw [List.length_drop], h2, h3, by rw [List.length_drop]; omega, by omega, fun j hj => ?_⟩
    rw [List.length_drop] at hj
    rw [getD_drop, Nat.add_assoc]
    exact h6 (n + j) (by omega)
theorem Live.dropAll {w : World} {B : Nat} {e : TypeId} {xs : List Int} {g o cap : Nat} (h : Live w B e (.slice (some ⟨g, o, none⟩) xs.length cap) xs) (hc : xs.length = cap) :
    Live w B e (.slice (some ⟨g, o, none⟩) 0 0) [] := by
  rcases h with ⟨h, _⟩ | ⟨g', o', cap', cur, h1, h2, h3, h4, h5, h6⟩
  · simp at h
  · simp only [Value.slice.injEq, Option.some.injEq, Addr.mk.injEq, and_true, true_and] at h1
    obtain ⟨⟨rfl, rfl⟩, rfl⟩ := h1
    exact .inr ⟨g, o, 0, cur, rfl, h2, h3, by simp, by omega, fun j hj => by simp at hj⟩

theorem wpList_append_live {P : Program} (w : World) {ops : Array Oper} {rest : List Oper} {o : Oper} {a : Act} {Q : Exit → Act → World → Prop}
    (hg : o.guard = none) (s x : Operand) (t : TypeId) (hop : o.op = Op.call { callee := Callee.builtin Builtin.append, args := #[s, x], argTypes := #[t, t] })
    (B : Nat) (e : TypeId) (i : TypeInfo) (h1 : P.underlying t = some (.slice e)) (h2 : P.info? e = some i) (h3 : i.zero = some (.int .i64 0)) (h4 : i.size = 1) (h5 : i.bytes = 8)
    (v : Value) (xs : List Int) (hs : a.eval s = v) (hl : Live w B e v xs) (ad : Addr) (c : Nat) (y : Int) (hx : a.eval x = .slice (some ad) 1 c) (hy : w.cell? ad = some (.int .i64 y))
    (hB : B ≤ w.heap.size) (hb : xs.length ≤ 1000000)
    (hK : ∀ v' w', Live w' B e v' (xs ++ [y]) → Below B w w' → wpList P ops Q rest (a.put o.dst v') w') : wpList P ops Q (o :: rest) a w := by
  have hone : ∀ u ∈ [Value.int .i64 y], u.oneCell' = true := fun u hu => by simp at hu; subst hu; rfl
  have hnews : ∀ (j : Nat) u, [Value.int .i64 y][j]? = some u → w.cell? (ad.add j) = some u := fun j u hj => by
    match j, hj with
    | 0, hj => simp at hj; subst hj; simpa [Addr.add] using hy
  have fresh : ∀ v' w', w'.ownsRow w.heap.size e 1 v' (xs.length + 1) (xs.map (Value.int .i64) ++ [Value.int .i64 y]) → Live w' B e v' (xs ++ [y]) := fun v' w' hown => by
    rcases hown with ⟨hlen, ⟨_, hh⟩ | ⟨g, cap, cur, hv, hg1, hg2, hg3, hg4, hg5, hg6⟩⟩
    · simp at hh
    · refine .inr ⟨g, 0, cap, cur, by rw [hv]; simp, by omega, hg2, by simpa using hg3, by omega, fun j hj => ?_⟩
      have : cur.toList[j]? = (xs.map (Value.int .i64) ++ [Value.int .i64 y])[j]? := by
        rw [← hg6, List.getElem?_take, if_pos (by simp at hj; simp; omega)]
      simp only [Nat.zero_add]
      rw [← Array.getElem?_toList, this]
      simp at hj
      by_cases hjj : j < xs.length
      · rw [List.getElem?_append_left (by simpa using hjj)]
        simp [List.getD, List.getElem?_append_left hjj, hjj]
      · have : j = xs.length := by omega
        subst this
        simp [List.getD]
  rcases hl with ⟨rfl, rfl⟩ | ⟨g, of, cap, cur, rfl, hB2, hh, hlc, hoc, hcells⟩
  · refine wpList_append_grows w hg s x t hop e i (.int .i64 0) 1 8 h1 h2 h3 h4 h5 rfl (by omega) none 0 0 [] hs (fun _ => ⟨rfl, rfl⟩) rfl (fun b hb => by cases hb) ad 1 c [.int .i64 y] hx rfl hnews hone (by omega) (by unfold maxLen; omega) (by omega) ?_
    intro v' w' hown hgr
    exact hK v' w' (fresh v' w' (by simpa using hown)) ((below_of hgr).mono hB)
  · have hcell : ∀ j, j < cap → w.cell? ⟨g, of + j, none⟩ = cur[of + j]? := fun j hj => by simp [World.cell?, hh]
    refine wpList_append_arg w hg s x t hop e i (.int .i64 0) 1 8 h1 h2 h3 h4 h5 rfl (by omega) g of xs.length cap (xs.map (Value.int .i64)) hs (by simp) ?_ ad 1 c [.int .i64 y] hx rfl hnews hone ?_ (by unfold maxLen; omega) (by omega) ?_ ?_
    · intro j u hj
      have hjl : j < xs.length := by
        have := (List.getElem?_eq_some_iff.1 hj).1; simpa using this
      rw [hcell j (by omega), hcells j hjl]
      simp [hjl] at hj
      rw [← hj]; simp [List.getD, hjl]
    · intro hr j hj
      simp at hj; subst hj
      refine ⟨?_, ?_⟩
      · have e1 := hcell xs.length (by omega)
        simp only [Nat.mul_one, Nat.add_zero]
        rw [e1]
        have : of + xs.length < cur.size := by omega
        simp [this]
      · simp [World.frozen?, hh]
    · intro hr
      simp only [Nat.mul_one]
      have hsz : of + xs.length < cur.size := by omega
      have hset : (w.setCells g (of + xs.length) [.int .i64 y]).heap[g]? = some (.cells (cur.setIfInBounds (of + xs.length) (.int .i64 y)) e (0, 0)) := by
        simp [World.setCells, World.setCell, hh, Array.getElem?_modify]
      refine hK _ _ (.inr ⟨g, of, cap, cur.setIfInBounds (of + xs.length) (.int .i64 y), by simp, hB2, hset, by simpa using hr, by simpa using hoc, fun j hj => ?_⟩) ?_
      · simp at hj
        by_cases hjj : j < xs.length
        · rw [Array.getElem?_setIfInBounds_ne (by omega), hcells j hjj]
          simp [List.getD, List.getElem?_append_left hjj]
        · have : j = xs.length := by omega
          subst this
          simp [List.getD, hsz]
      · refine ((Below.refl B w).setCell (p := ⟨g, of + xs.length, none⟩) hB2 (.int .i64 y))
    · intro hr v' w' hown hgr
      exact hK v' w' (fresh v' w' hown) ((below_of hgr).mono hB)
end Go.Proofs.Ytipnmdhifkckkaa
