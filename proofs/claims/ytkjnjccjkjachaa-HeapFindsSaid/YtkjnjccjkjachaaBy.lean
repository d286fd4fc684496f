/- Bytes in memory, and a writer of bytes: no function of the program is in sight. -/
import Derived.Test.YtkjnjccjkjachaaBase
import Derived.Lib.AppendStr
import Derived.Laws.BytesString
namespace Go.Proofs.Ytkjnjccjkjachaa
open Go.RowKit

def bcells (l : List UInt8) : List Value := l.map fun b => Value.int .u8 b.toNat
theorem bcells_append (l r : List UInt8) : bcells (l ++ r) = bcells l ++ bcells r := by simp [bcells]
theorem bcells_len (l : List UInt8) : (bcells l).length = l.length := by simp [bcells]
theorem bcells_str (s : ByteArray) : Lib.strCells s = bcells s.data.toList := rfl

theorem foldl_push (l : List UInt8) : ∀ (s : ByteArray), (l.map fun b => ((b.toNat : Nat) : Int)).foldl (fun (r : ByteArray) (n : Int) => r.push (UInt8.ofNat n.toNat)) s = ⟨s.data ++ l.toArray⟩ := by
  induction l with
  | nil => intro s; simp
  | cons b l ih =>
    intro s
    simp only [List.map_cons, List.foldl_cons]
    rw [ih]
    simp [ByteArray.push]

/-- A list of bytes that is owned, as a text. -/
theorem run_string_of {P : Program} (w : World) (src dst e : TypeId) (hs : P.underlying src = some (.slice e)) (he : P.underlying e = some (.int .u8)) (hd : P.underlying dst = some .string)
    {B : Nat} {v : Value} {n : Nat} {l : List UInt8} (hown : w.ownsRow B e 1 v n (bcells l)) : (convert src dst v).run P w = .ok (.string ⟨l.toArray⟩) w := by
  rcases hown with ⟨hlen, ⟨rfl, hx⟩ | ⟨g, cap, cur, rfl, hB, hg, hn, hm, hc, ht⟩⟩
  · have hl : l = [] := by
      rw [bcells_len] at hlen
      exact List.length_eq_zero_iff.1 (by omega)
    subst hl
    rw [run_convert_bytes_string w src dst e none 0 0 hs he hd]
    simp [Conv.bytesToString]
    rfl
  · have hnl : n = l.length := by rw [bcells_len] at hlen; omega
    subst hnl
    have hcell : ∀ j v, (bcells l)[j]? = some v → w.cell? ((⟨g, 0, none⟩ : Addr).add j) = some v := fun j v hj => by
      have hadd : (⟨g, 0, none⟩ : Addr).add j = ⟨g, j, none⟩ := by unfold Addr.add; split <;> simp_all
      rw [hadd]
      simp only [World.cell?, hg]
      have : j < l.length := by have := (List.getElem?_eq_some_iff.1 hj).1; rwa [bcells_len] at this
      rw [← ht, List.getElem?_take, if_pos (by omega)] at hj
      simpa using hj
    have hload := run_loadCells_list (P := P) (w := w) ⟨g, 0, none⟩ (bcells l) hcell
    rw [bcells_len] at hload
    have e1 : (bcells l).toArray = ((l.map fun b => ((b.toNat : Nat) : Int)).map (Value.int .u8)).toArray := by simp [bcells]
    rw [e1] at hload
    rw [run_convert_bytes_string w src dst e _ _ _ hs he hd, run_bytesToString w ⟨g, 0, none⟩ l.length cap _ hload, foldl_push]
    congr 2
    simp [ByteArray.empty, ByteArray.emptyWithCapacity]
    rfl

/-- What a writer's call may touch: its own cell, its bytes' block; new blocks are made. -/
structure Touch (bw : Nat) (ob : Option Nat) (w w' : World) : Prop where
  os : w'.os = w.os
  tape : w'.tape = w.tape
  output : w'.output = w.output
  size : w.heap.size ≤ w'.heap.size
  block : ∀ k, k < w.heap.size → k ≠ bw → some k ≠ ob → w'.heap[k]? = w.heap[k]?
theorem Touch.refl (bw : Nat) (ob : Option Nat) (w : World) : Touch bw ob w w := ⟨rfl, rfl, rfl, Nat.le_refl _, fun _ _ _ _ => rfl⟩
theorem Touch.trans {bw : Nat} {ob ob' : Option Nat} {a b c : World} (h : Touch bw ob a b) (k : Touch bw ob' b c) (ho : ob' = ob ∨ ∃ g, ob' = some g ∧ a.heap.size ≤ g) : Touch bw ob a c :=
  ⟨k.os.trans h.os, k.tape.trans h.tape, k.output.trans h.output, Nat.le_trans h.size k.size, fun i hi h1 h2 => (k.block i (Nat.lt_of_lt_of_le hi h.size) h1 (by
    rcases ho with rfl | ⟨g, rfl, hg⟩
    · exact h2
    · simp; omega)).trans (h.block i hi h1 h2)⟩
theorem Touch.of_grown {bw : Nat} {ob : Option Nat} {w w' : World} (h : w.grownBy w' ob) : Touch bw ob w w' := ⟨h.os, h.tape, h.output, h.size, fun k hk _ h2 => h.block k hk h2⟩
theorem Touch.of_cell {bw : Nat} {ob : Option Nat} (w : World) (v : Value) : Touch bw ob w (w.setCell ⟨bw, 0, none⟩ v) :=
  have h := grown_set w bw 0 v
  ⟨h.os, h.tape, h.output, h.size, fun k hk h1 _ => h.block k hk (by simpa using h1)⟩
theorem Touch.below {bw : Nat} {ob : Option Nat} {w w' : World} {B : Nat} (h : Touch bw ob w w') (hB : B ≤ w.heap.size) (h1 : B ≤ bw) (h2 : ∀ g, ob = some g → B ≤ g) : Below B w w' :=
  ⟨h.os, h.tape, h.output, h.size, fun k hk => h.block k (by omega) (by omega) (fun e => by have := h2 k e.symm; omega)⟩
theorem Touch.at {bw : Nat} {ob : Option Nat} {w w' : World} (h : Touch bw ob w w') {a : Addr} {v : Value} (hc : w.cell? a = some v) (h1 : a.block ≠ bw) (h2 : some a.block ≠ ob) : w'.cell? a = some v :=
  (World.cell?_of_block (h.block a.block (World.block_lt_of_cell? w a hc) h1 h2)).trans hc

/-- A writer in block bw has laid the bytes l; v is its slice. -/
structure WrV (w : World) (bw B : Nat) (e : TypeId) (v : Value) (l : List UInt8) : Prop where
  cell : w.cell? ⟨bw, 0, none⟩ = some v
  fr : w.frozen? ⟨bw, 0, none⟩ = false
  own : w.ownsRow B e 1 v l.length (bcells l)
  lt : bw < B
  le : B ≤ w.heap.size

theorem WrV.ownGe {w : World} {bw B : Nat} {e : TypeId} {v : Value} {l : List UInt8} (h : WrV w bw B e v l) : ∀ g, v.ownBlock = some g → B ≤ g := by
  intro g hg
  rcases h.own.2 with ⟨rfl, _⟩ | ⟨g', cap, cur, rfl, hB, _⟩
  · simp [Value.ownBlock] at hg
  · simp [Value.ownBlock] at hg; omega
theorem WrV.kept {w w' : World} {bw B : Nat} {e : TypeId} {v : Value} {l : List UInt8} (h : WrV w bw B e v l) {row : Option Nat} (hg : w.grownBy w' row) (h1 : some bw ≠ row) (h2 : v.ownBlock = none ∨ v.ownBlock ≠ row) : WrV w' bw B e v l :=
  ⟨grown_at hg h.cell h1, (grown_fr (a := ⟨bw, 0, none⟩) hg (by have := h.lt; have := h.le; show bw < _; omega) h1).trans h.fr, h.own.kept hg h2, h.lt, Nat.le_trans h.le hg.size⟩
theorem WrV.below {w w' : World} {bw B : Nat} {e : TypeId} {v : Value} {l : List UInt8} (h : WrV w bw B e v l) (hb : Below w.heap.size w w') : WrV w' bw B e v l :=
  h.kept (grown_of hb) (by simp) (by cases v.ownBlock <;> simp)
theorem WrV.alloc {w : World} {bw B : Nat} {e : TypeId} {v : Value} {l : List UInt8} (h : WrV w bw B e v l) (o : Obj) : WrV (w.alloc o) bw B e v l :=
  h.below ((Below.refl _ _).alloc (Nat.le_refl _) o)
/-- A new slice is stored into the writer's cell. -/
theorem WrV.store {w w' : World} {bw B : Nat} {e : TypeId} {v v' : Value} {l l' : List UInt8} (h : WrV w bw B e v l) (hg : w.grownBy w' v.ownBlock) (ho : w'.ownsRow B e 1 v' l'.length (bcells l')) :
    WrV (w'.setCell ⟨bw, 0, none⟩ v') bw B e v' l' ∧ Touch bw v.ownBlock w (w'.setCell ⟨bw, 0, none⟩ v') := by
  have hne : some bw ≠ v.ownBlock := fun e => by have := h.ownGe bw e.symm; have := h.lt; omega
  refine ⟨⟨set_same _ (grown_at hg h.cell hne), ?_, ?_, h.lt, ?_⟩, (Touch.of_grown hg).trans (Touch.of_cell w' v') (.inl rfl)⟩
  · rw [World.frozen?_setCell]
    exact (grown_fr (a := ⟨bw, 0, none⟩) hg (by have := h.lt; have := h.le; show bw < _; omega) hne).trans h.fr
  · exact ownsRow_setCell_below ho (by have := h.lt; show bw < B; omega) _
  · have := hg.size; have := h.le; simp [World.setCell]; omega
/-- Where the new slice's block is. -/
def NewOb (w : World) (ob ob' : Option Nat) : Prop := ob' = ob ∨ ∃ g, ob' = some g ∧ w.heap.size ≤ g
theorem NewOb.refl (w : World) (ob : Option Nat) : NewOb w ob ob := .inl rfl
theorem NewOb.trans {a b : World} {o1 o2 o3 : Option Nat} (h : NewOb a o1 o2) (k : NewOb b o2 o3) (hs : a.heap.size ≤ b.heap.size) : NewOb a o1 o3 := by
  rcases k with rfl | ⟨g, rfl, hg⟩
  · exact h
  · exact .inr ⟨g, rfl, by omega⟩

theorem ob_of_own {P : Program} {w w' : World} {t u ty e : TypeId} {v v' : Value} {B n m : Nat} {xs ys : List Value} {x : Value} (hown : w.ownsRow B e 1 v n xs)
    (hnil : v = .slice none 0 0 → ∃ v2 w2, (Builtin.append_ #[t, u] ty #[v, x]).run P w = .ok v2 w2 ∧ w2.ownsRow w.heap.size e 1 v2 m ys)
    (hsome : ∀ g cap cur, v = .slice (some ⟨g, 0, none⟩) n cap → w.heap[g]? = some (.cells cur e (0, 0)) → n ≤ cap → cur.size = cap → ∃ v2 w2, (Builtin.append_ #[t, u] ty #[v, x]).run P w = .ok v2 w2 ∧ (v2.ownBlock = some g ∨ v2.ownBlock = some w.heap.size))
    (hr : (Builtin.append_ #[t, u] ty #[v, x]).run P w = .ok v' w') : NewOb w v.ownBlock v'.ownBlock := by
  rcases hown.2 with ⟨rfl, rfl⟩ | ⟨g, cap, cur, rfl, hbg, hg, hnc, hcm, hcs, htake⟩
  · obtain ⟨v2, w2, h2, h3⟩ := hnil rfl
    rw [hr] at h2
    injection h2 with e1 e2
    subst e1; subst e2
    rcases h3.2 with ⟨rfl, _⟩ | ⟨g, cap, cur, rfl, hbg, _⟩
    · exact .inl rfl
    · exact .inr ⟨g, rfl, hbg⟩
  · obtain ⟨v2, w2, h2, h3⟩ := hsome g cap cur rfl hg hnc (by simpa using hcs)
    rw [hr] at h2
    injection h2 with e1 e2
    subst e1
    rcases h3 with h3 | h3
    · exact .inl (by rw [h3]; rfl)
    · exact .inr ⟨_, h3, Nat.le_refl _⟩

/-- Some bytes are appended. -/
theorem run_append_by {P : Program} {w : World} (B : Nat) (t ty e : TypeId) (i : TypeInfo) (ht : P.underlying t = some (.slice e)) (hi : P.info? e = some i) (hz : i.zero = some (.int .u8 0)) (hsize : i.size = 1) (hby : i.bytes = 1)
    (v : Value) (n : Nat) (l : List UInt8) (hown : w.ownsRow B e 1 v n (bcells l))
    (a : Addr) (m c : Nat) (k : List UInt8) (hl : k.length = m) (hnews : ∀ j u, (bcells k)[j]? = some u → w.cell? (a.add j) = some u)
    (hlen : n + m ≤ 140737488355328) (hbase : B ≤ w.heap.size) :
    ∃ v' w', (Builtin.append_ #[t, t] ty #[v, .slice (some a) m c]).run P w = .ok v' w' ∧ w'.ownsRow B e 1 v' (n + m) (bcells (l ++ k)) ∧ w.grownBy w' v.ownBlock ∧ NewOb w v.ownBlock v'.ownBlock := by
  have hl' : (bcells k).length = m * 1 := by rw [bcells_len, hl, Nat.mul_one]
  have h1 : ∀ u ∈ bcells k, u.oneCell' = true := by
    intro u hu
    obtain ⟨b, _, rfl⟩ := List.mem_map.1 hu
    rfl
  have h63 : n + m ≤ maxLen := by unfold maxLen; omega
  obtain ⟨v', w', hr, ho, hg, _⟩ := run_append_own (P := P) (w := w) B t ty e i (.int .u8 0) 1 1 ht hi hz hsize hby rfl (by decide) v n (bcells l) hown a m c (bcells k) hl' hnews h1 h63 (by omega) hbase
  refine ⟨v', w', hr, by rw [bcells_append]; exact ho, hg, ob_of_own (ys := bcells l ++ bcells k) (m := n + m) hown ?_ ?_ hr⟩
  · rintro rfl
    have hn : n = 0 ∧ bcells l = [] := by
      rcases hown.2 with ⟨_, h⟩ | ⟨g, cap, cur, h, _⟩
      · refine ⟨h, List.eq_nil_of_length_eq_zero ?_⟩
        rw [hown.1, h]
      · cases h
    obtain ⟨v2, w2, h2, h3, _⟩ := run_append_own (P := P) (w := w) w.heap.size t ty e i (.int .u8 0) 1 1 ht hi hz hsize hby rfl (by decide) (.slice none 0 0) n (bcells l) (by rw [hn.1, hn.2]; exact World.ownsRow_nil w _ e 1) a m c (bcells k) hl' hnews h1 h63 (by omega) (Nat.le_refl _)
    exact ⟨v2, w2, h2, h3⟩
  · rintro g cap cur rfl hg hnc hcs
    by_cases hroom : n + m ≤ cap
    · exact ⟨_, _, run_append_room (P := P) (w := w) t ty e i ht hi g n cap cur hg a m c (bcells k) (by rw [hsize]; exact hl') hnews h1 hroom (by rw [hsize, hl', hcs]; omega), .inl rfl⟩
    · exact ⟨_, _, run_append_grow (P := P) (w := w) t ty e i (.int .u8 0) ht hi hz ⟨g, 0, none⟩ n cap (bcells l) (by rw [hsize]; exact hown.1) (hown.cells (g := g) rfl) a m c (bcells k) (by rw [hsize]; exact hl') hnews (by omega) (by omega) (by rw [hby]; exact growslice_fits (by omega) (by omega)), .inr rfl⟩

/-- A text's bytes are appended. -/
theorem run_append_tx {P : Program} {w : World} (B : Nat) (t u ty e : TypeId) (i : TypeInfo) (ht : P.underlying t = some (.slice e)) (hu : P.underlying u = some .string) (hi : P.info? e = some i) (hz : i.zero = some (.int .u8 0)) (hsize : i.size = 1) (hby : i.bytes = 1)
    (v : Value) (n : Nat) (l : List UInt8) (hown : w.ownsRow B e 1 v n (bcells l)) (s : ByteArray)
    (hlen : n + s.size ≤ 140737488355328) (hbase : B ≤ w.heap.size) :
    ∃ v' w', (Builtin.append_ #[t, u] ty #[v, .string s]).run P w = .ok v' w' ∧ w'.ownsRow B e 1 v' (n + s.size) (bcells (l ++ s.data.toList)) ∧ w.grownBy w' v.ownBlock ∧ NewOb w v.ownBlock v'.ownBlock := by
  have h63 : n + s.size ≤ maxLen := by unfold maxLen; omega
  obtain ⟨v', w', hr, ho, hg, _⟩ := Lib.run_append_own_string (P := P) w B t u ty e i ht hu hi hz hsize hby v n (bcells l) hown s h63 hlen hbase
  refine ⟨v', w', hr, by rw [bcells_append, ← bcells_str]; exact ho, hg, ob_of_own (ys := bcells l ++ Lib.strCells s) (m := n + s.size) hown ?_ ?_ hr⟩
  · rintro rfl
    have hn : n = 0 ∧ bcells l = [] := by
      rcases hown.2 with ⟨_, h⟩ | ⟨g, cap, cur, h, _⟩
      · refine ⟨h, List.eq_nil_of_length_eq_zero ?_⟩
        rw [hown.1, h]
      · cases h
    obtain ⟨v2, w2, h2, h3, _⟩ := Lib.run_append_own_string (P := P) w w.heap.size t u ty e i ht hu hi hz hsize hby (.slice none 0 0) n (bcells l) (by rw [hn.1, hn.2]; exact World.ownsRow_nil w _ e 1) s h63 hlen (Nat.le_refl _)
    exact ⟨v2, w2, h2, h3⟩
  · rintro g cap cur rfl hg hnc hcs
    by_cases hroom : n + s.size ≤ cap
    · exact ⟨_, _, Lib.run_append_room_string (P := P) w t u ty e i ht hu hi hsize g n cap cur hg s hroom (by omega), .inl rfl⟩
    · exact ⟨_, _, Lib.run_append_grow_string (P := P) w t u ty e i (.int .u8 0) ht hu hi hz ⟨g, 0, none⟩ n cap (bcells l) (by rw [hsize]; exact hown.1) (hown.cells (g := g) rfl) s (by omega) (by omega) (by rw [hby]; exact growslice_fits (by omega) (by omega)), .inr rfl⟩

theorem wpList_append_by {P : Program} {w : World} {ops : Array Oper} {rest : List Oper} {o : Oper} {act : Act} {Q : Exit → Act → World → Prop} (hgd : o.guard = none) (sl x : Operand) (t : TypeId)
    (hop : o.op = .call { callee := .builtin .append, args := #[sl, x], argTypes := #[t, t] })
    (B : Nat) (e : TypeId) (i : TypeInfo) (ht : P.underlying t = some (.slice e)) (hi : P.info? e = some i) (hz : i.zero = some (.int .u8 0)) (hsize : i.size = 1) (hby : i.bytes = 1)
    (v : Value) (n : Nat) (l : List UInt8) (hs : act.eval sl = v) (hown : w.ownsRow B e 1 v n (bcells l))
    (a : Addr) (m c : Nat) (k : List UInt8) (hx : act.eval x = .slice (some a) m c) (hl : k.length = m) (hnews : ∀ j u, (bcells k)[j]? = some u → w.cell? (a.add j) = some u)
    (hlen : n + m ≤ 140737488355328) (hbase : B ≤ w.heap.size)
    (h : ∀ v' w', w'.ownsRow B e 1 v' (n + m) (bcells (l ++ k)) → w.grownBy w' v.ownBlock → NewOb w v.ownBlock v'.ownBlock → wpList P ops Q rest (act.put o.dst v') w') : wpList P ops Q (o :: rest) act w := by
  refine wpList_plain hgd fun K hK => ?_
  obtain ⟨v', w', hr, h2, h3, h4⟩ := run_append_by (P := P) (w := w) B t o.type e i ht hi hz hsize hby v n l hown a m c k hl hnews hlen hbase
  unfold Oper.wp execOp
  simp only [hop, resolve, invoke, builtin, Sem.run_bind, Sem.run_pure, Result.andThen_ok, List.map_toArray, List.map_cons, List.map_nil, hs, hx, hr]
  exact hK _ _ (h v' w' h2 h3 h4)

theorem wpList_append_tx {P : Program} {w : World} {ops : Array Oper} {rest : List Oper} {o : Oper} {act : Act} {Q : Exit → Act → World → Prop} (hgd : o.guard = none) (sl x : Operand) (t u : TypeId)
    (hop : o.op = .call { callee := .builtin .append, args := #[sl, x], argTypes := #[t, u] })
    (B : Nat) (e : TypeId) (i : TypeInfo) (ht : P.underlying t = some (.slice e)) (hu : P.underlying u = some .string) (hi : P.info? e = some i) (hz : i.zero = some (.int .u8 0)) (hsize : i.size = 1) (hby : i.bytes = 1)
    (v : Value) (n : Nat) (l : List UInt8) (hs : act.eval sl = v) (hown : w.ownsRow B e 1 v n (bcells l)) (s : ByteArray) (hx : act.eval x = .string s)
    (hlen : n + s.size ≤ 140737488355328) (hbase : B ≤ w.heap.size)
    (h : ∀ v' w', w'.ownsRow B e 1 v' (n + s.size) (bcells (l ++ s.data.toList)) → w.grownBy w' v.ownBlock → NewOb w v.ownBlock v'.ownBlock → wpList P ops Q rest (act.put o.dst v') w') : wpList P ops Q (o :: rest) act w := by
  refine wpList_plain hgd fun K hK => ?_
  obtain ⟨v', w', hr, h2, h3, h4⟩ := run_append_tx (P := P) (w := w) B t u o.type e i ht hu hi hz hsize hby v n l hown s hlen hbase
  unfold Oper.wp execOp
  simp only [hop, resolve, invoke, builtin, Sem.run_bind, Sem.run_pure, Result.andThen_ok, List.map_toArray, List.map_cons, List.map_nil, hs, hx, hr]
  exact hK _ _ (h v' w' h2 h3 h4)
end Go.Proofs.Ytkjnjccjkjachaa
