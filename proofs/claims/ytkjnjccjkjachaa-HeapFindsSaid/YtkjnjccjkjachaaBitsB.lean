/- The sevens of numbers, and the writer's contracts. -/
import Derived.Test.YtkjnjccjkjachaaBy
namespace Go.Proofs.Ytkjnjccjkjachaa
open Go.RowKit
set_option linter.unusedSimpArgs false
set_option maxRecDepth 100000

/-- A number's sevens, the lowest first. -/
def sev (n : Nat) : List UInt8 := if n < 128 then [UInt8.ofNat n] else UInt8.ofNat (n % 128 + 128) :: sev (n / 128)
termination_by n
decreasing_by omega
theorem sev_low {n : Nat} (h : n < 128) : sev n = [UInt8.ofNat n] := by rw [sev, if_pos h]
theorem sev_high {n : Nat} (h : ¬ n < 128) : sev n = UInt8.ofNat (n % 128 + 128) :: sev (n / 128) := by rw [sev, if_neg h]
theorem sev_len' : ∀ (k n : Nat), n < 128 ^ (k + 1) → (sev n).length ≤ k + 1 := by
  intro k
  induction k with
  | zero => intro n h; rw [sev_low (by omega)]; simp
  | succ k ih =>
    intro n h
    by_cases hn : n < 128
    · rw [sev_low hn]; simp
    · rw [sev_high hn]
      have := ih (n / 128) (by rw [Nat.pow_succ] at h; omega)
      simp; omega
theorem sev_len {n : Nat} (h : n < 9223372036854775808) : (sev n).length ≤ 9 := sev_len' 8 n (by omega)
theorem sev_pos (n : Nat) : 1 ≤ (sev n).length := by
  by_cases h : n < 128
  · rw [sev_low h]; simp
  · rw [sev_high h]; simp
/-- The sevens of numbers, one behind the other. -/
def sevs (ns : List Int) : List UInt8 := ns.flatMap fun z => sev z.toNat
theorem sevs_snoc (ns : List Int) (z : Int) : sevs (ns ++ [z]) = sevs ns ++ sev z.toNat := by simp [sevs]
theorem sevs_one (z : Int) : sevs [z] = sev z.toNat := by simp [sevs]

set_option maxRecDepth 4000 in
theorem or_128 (x : Nat) (hx : x < 256) : bits BinOp.or IntKind.u8 (x : Int) 128 = ((x % 128 + 128 : Nat) : Int) := by
  have h : ∀ y : Fin 256, (y : Nat) ||| 128 = (y : Nat) % 128 + 128 := by decide
  have := u8_or_nat x 128 hx (by decide)
  rw [h ⟨x, hx⟩] at this
  exact this

/-- Ahead w0, the writer in bw held v0; now, in w, it holds v with the bytes l. -/
structure WS (w0 : World) (v0 : Value) (bw B : Nat) (e : TypeId) (w : World) (v : Value) (l : List UInt8) : Prop where
  wr : WrV w bw B e v l
  touch : Touch bw v0.ownBlock w0 w
  nob : NewOb w0 v0.ownBlock v.ownBlock
theorem WS.start {w : World} {bw B : Nat} {e : TypeId} {v : Value} {l : List UInt8} (h : WrV w bw B e v l) : WS w v bw B e w v l := ⟨h, Touch.refl _ _ _, NewOb.refl _ _⟩
theorem WS.trans {w0 w1 w2 : World} {bw B : Nat} {e : TypeId} {v0 v1 v2 : Value} {l1 l2 : List UInt8} (h : WS w0 v0 bw B e w1 v1 l1) (k : WS w1 v1 bw B e w2 v2 l2) : WS w0 v0 bw B e w2 v2 l2 :=
  ⟨k.wr, h.touch.trans k.touch h.nob, h.nob.trans k.nob h.touch.size⟩
theorem WS.below {w0 w w' : World} {bw B : Nat} {e : TypeId} {v0 v : Value} {l : List UInt8} (h : WS w0 v0 bw B e w v l) (hb : Below w.heap.size w w') : WS w0 v0 bw B e w' v l :=
  ⟨h.wr.below hb, h.touch.trans (ob' := v0.ownBlock) ⟨hb.os, hb.tape, hb.output, hb.size, fun k hk _ _ => hb.block k hk⟩ (.inl rfl), h.nob⟩
theorem WS.size {w0 w : World} {bw B : Nat} {e : TypeId} {v0 v : Value} {l : List UInt8} (h : WS w0 v0 bw B e w v l) : w0.heap.size ≤ w.heap.size := h.touch.size
/-- What lies elsewhere stays. -/
theorem WS.at {w0 w : World} {bw B : Nat} {e : TypeId} {v0 v : Value} {l : List UInt8} (h : WS w0 v0 bw B e w v l) {a : Addr} {x : Value} (hc : w0.cell? a = some x) (h1 : a.block ≠ bw) (h2 : some a.block ≠ v0.ownBlock) : w.cell? a = some x := h.touch.at hc h1 h2
/-- Appended, not stored yet. -/
structure WA (w0 : World) (v0 : Value) (bw B : Nat) (e : TypeId) (w : World) (v' : Value) (l : List UInt8) : Prop where
  fin : WS w0 v0 bw B e (w.setCell ⟨bw, 0, none⟩ v') v' l
theorem WS.app {w0 w1 w2 : World} {bw B : Nat} {e : TypeId} {v0 v v' : Value} {l l' : List UInt8} {n : Nat} (h : WS w0 v0 bw B e w1 v l) (hn : n = l'.length) (ho : w2.ownsRow B e 1 v' n (bcells l')) (hg : w1.grownBy w2 v.ownBlock) (hk : NewOb w1 v.ownBlock v'.ownBlock) :
    WA w0 v0 bw B e w2 v' l' ∧ w2.cell? ⟨bw, 0, none⟩ = some v ∧ w2.frozen? ⟨bw, 0, none⟩ = false := by
  subst hn
  obtain ⟨a, b⟩ := h.wr.store hg ho
  have hne : some bw ≠ v.ownBlock := fun e => by have := h.wr.ownGe bw e.symm; have := h.wr.lt; omega
  exact ⟨⟨a, h.touch.trans b h.nob, h.nob.trans hk h.touch.size⟩, grown_at hg h.wr.cell hne, (grown_fr (a := ⟨bw, 0, none⟩) hg (by have := h.wr.lt; have := h.wr.le; show bw < _; omega) hne).trans h.wr.fr⟩

/-- The types of a slice of bytes. -/
structure ByTy (P : Program) (t e : TypeId) : Prop where
  und : P.underlying t = some (.slice e)
  info : ∃ i, P.info? e = some i ∧ i.zero = some (.int .u8 0) ∧ i.size = 1 ∧ i.bytes = 1

theorem own_slice {w : World} {B : Nat} {e : TypeId} {v : Value} {n : Nat} {xs : List Value} (h : w.ownsRow B e 1 v n xs) : ∃ (ao : Option Addr) (nn cc : Nat), v = .slice ao nn cc := by
  rcases h.2 with ⟨rfl, _⟩ | ⟨g, cap, cur, rfl, _⟩
  · exact ⟨_, _, _, rfl⟩
  · exact ⟨_, _, _, rfl⟩
theorem wpList_ws_by {P : Program} {w0 w : World} {bw B : Nat} {v0 v : Value} {l : List UInt8} {ops : Array Oper} {rest : List Oper} {o : Oper} {act : Act} {Q : Exit → Act → World → Prop} (hgd : o.guard = none) (sl x : Operand) (t e : TypeId)
    (hop : o.op = .call { callee := .builtin .append, args := #[sl, x], argTypes := #[t, t] }) (ht : ByTy P t e)
    (hs : act.eval sl = v) (h : WS w0 v0 bw B e w v l) (z : Int) (c : Nat) (hz : z = c) (hc : c < 256)
    (hx : act.eval x = .slice (some ⟨w.heap.size, 0, none⟩) 1 1) (hlen : l.length + 1 ≤ 140737488355328)
    (hK : ∀ (ao : Option Addr) (nn cc : Nat) w', w'.cell? ⟨bw, 0, none⟩ = some v → w'.frozen? ⟨bw, 0, none⟩ = false → WA w0 v0 bw B e w' (.slice ao nn cc) (l ++ [UInt8.ofNat c]) → wpList P ops Q rest (act.put o.dst (.slice ao nn cc)) w') :
    wpList P ops Q (o :: rest) act (w.alloc (.cells #[.int .u8 z] e)) := by
  subst hz
  obtain ⟨i, i1, i2, i3, i4⟩ := ht.info
  have h' := h.below ((Below.refl _ w).alloc (Nat.le_refl _) (.cells #[.int .u8 c] e))
  refine wpList_append_by hgd sl x t hop B e i ht.und i1 i2 i3 i4 v l.length l hs h'.wr.own ⟨w.heap.size, 0, none⟩ 1 1 [UInt8.ofNat c] hx rfl ?_ hlen h'.wr.le ?_
  · intro j u hj
    match j, hj with
    | 0, hj =>
      simp [bcells] at hj; subst hj
      have e1 : c % 256 = c := Nat.mod_eq_of_lt hc
      simp [Addr.add]
      omega
    | (j + 1), hj => simp [bcells] at hj
  · intro v' w' ho hg hk
    obtain ⟨a, b, d⟩ := h'.app (by simp) ho hg hk
    obtain ⟨ao, nn, cc, rfl⟩ := own_slice ho
    exact hK ao nn cc w' b d a

theorem wpList_ws_tx {P : Program} {w0 w : World} {bw B : Nat} {v0 v : Value} {l : List UInt8} {ops : Array Oper} {rest : List Oper} {o : Oper} {act : Act} {Q : Exit → Act → World → Prop} (hgd : o.guard = none) (sl x : Operand) (t e u : TypeId)
    (hop : o.op = .call { callee := .builtin .append, args := #[sl, x], argTypes := #[t, u] }) (ht : ByTy P t e) (hu : P.underlying u = some .string)
    (hs : act.eval sl = v) (h : WS w0 v0 bw B e w v l) (s : ByteArray) (hx : act.eval x = .string s) (hlen : l.length + s.size ≤ 140737488355328)
    (hK : ∀ (ao : Option Addr) (nn cc : Nat) w', w'.cell? ⟨bw, 0, none⟩ = some v → w'.frozen? ⟨bw, 0, none⟩ = false → WA w0 v0 bw B e w' (.slice ao nn cc) (l ++ s.data.toList) → wpList P ops Q rest (act.put o.dst (.slice ao nn cc)) w') :
    wpList P ops Q (o :: rest) act w := by
  obtain ⟨i, i1, i2, i3, i4⟩ := ht.info
  refine wpList_append_tx hgd sl x t u hop B e i ht.und hu i1 i2 i3 i4 v l.length l hs h.wr.own s hx hlen h.wr.le ?_
  intro v' w' ho hg hk
  obtain ⟨a, b, d⟩ := h.app (by simp) ho hg hk
  obtain ⟨ao, nn, cc, rfl⟩ := own_slice ho
  exact hK ao nn cc w' b d a

/-- Owned bytes as a text. -/
theorem wpList_text_of {P : Program} {w : World} {ops : Array Oper} {rest : List Oper} {o : Oper} {act : Act} {Q : Exit → Act → World → Prop} (hgd : o.guard = none) (x : Operand) (t e u : TypeId)
    (hop : o.op = .convert t u x) (ht : ByTy P t e) (he : P.underlying e = some (.int .u8)) (hu : P.underlying u = some .string) {B : Nat} {v : Value} {l : List UInt8} {n : Nat} (hs : act.eval x = v) (h : w.ownsRow B e 1 v n (bcells l))
    (hK : wpList P ops Q rest (act.put o.dst (.string ⟨l.toArray⟩)) w) : wpList P ops Q (o :: rest) act w := by
  refine wpList_plain hgd fun K hK' => ?_
  have hr := run_string_of (P := P) w t u e ht.und he hu h
  unfold Oper.wp execOp
  simp only [hop, Sem.run_bind, Sem.run_pure, Result.andThen_ok, hs, hr]
  exact hK' _ _ hK

/-- A list of bytes that a call builds for itself. -/
structure RB (w0 : World) (e : TypeId) (w : World) (v : Value) (l : List UInt8) : Prop where
  own : w.ownsRow w0.heap.size e 1 v l.length (bcells l)
  bel : Below w0.heap.size w0 w
theorem RB.start (w : World) (e : TypeId) : RB w e w (.slice none 0 0) [] := ⟨World.ownsRow_nil w _ e 1, Below.refl _ w⟩
theorem wpList_rb_by {P : Program} {w0 w : World} {v : Value} {l : List UInt8} {ops : Array Oper} {rest : List Oper} {o : Oper} {act : Act} {Q : Exit → Act → World → Prop} (hgd : o.guard = none) (sl x : Operand) (t e : TypeId)
    (hop : o.op = .call { callee := .builtin .append, args := #[sl, x], argTypes := #[t, t] }) (ht : ByTy P t e)
    (hs : act.eval sl = v) (h : RB w0 e w v l) (z : Int) (c : Nat) (hz : z = c) (hc : c < 256)
    (hx : act.eval x = .slice (some ⟨w.heap.size, 0, none⟩) 1 1) (hlen : l.length + 1 ≤ 140737488355328)
    (hK : ∀ (ao : Option Addr) (nn cc : Nat) w', RB w0 e w' (.slice ao nn cc) (l ++ [UInt8.ofNat c]) → wpList P ops Q rest (act.put o.dst (.slice ao nn cc)) w') :
    wpList P ops Q (o :: rest) act (w.alloc (.cells #[.int .u8 z] e)) := by
  subst hz
  obtain ⟨i, i1, i2, i3, i4⟩ := ht.info
  have hb' := h.bel.alloc h.bel.size (.cells #[.int .u8 c] e)
  have ho' : (w.alloc (.cells #[.int .u8 c] e)).ownsRow w0.heap.size e 1 v l.length (bcells l) := h.own.kept (grown_alloc w _ none) (by cases v.ownBlock <;> simp)
  refine wpList_append_by hgd sl x t hop w0.heap.size e i ht.und i1 i2 i3 i4 v l.length l hs ho' ⟨w.heap.size, 0, none⟩ 1 1 [UInt8.ofNat c] hx rfl ?_ hlen hb'.size ?_
  · intro j u hj
    match j, hj with
    | 0, hj =>
      simp [bcells] at hj; subst hj
      have e1 : c % 256 = c := Nat.mod_eq_of_lt hc
      simp [Addr.add]
      omega
    | (j + 1), hj => simp [bcells] at hj
  · intro v' w' ho hg hk
    obtain ⟨ao, nn, cc, rfl⟩ := own_slice ho
    exact hK ao nn cc w' ⟨by simpa using ho, hb'.grown hg hb'.size (fun k hk => (ho'.lt k hk).1)⟩
end Go.Proofs.Ytkjnjccjkjachaa
