/- A region that draws its order, walked once, in the order of the text: the operations that only read are taken first (they yield one value in every world that meets S), an operation that acts is the only one that may come up when its turn comes. Guards that are not met are passed over. -/
import Derived.Test.YtkjnjccjkjachaaBase
namespace Go.Proofs.Ytkjnjccjkjachaa
open Go.RowKit

section
variable {P : Program} {ops : Array Oper} {Q : Exit → Act → World → Prop} {md : Region.Mode} {S : World → Prop}

/-- The order of the text may be followed: 'eff' tells which operations act. -/
def lexHB (md : Region.Mode) (ops : Array Oper) : List Bool → Nat → Array Bool → Bool
  | [], _, listed => (Region.ready md ops listed).isEmpty
  | false :: eff, k, listed => (Region.ready md ops listed).contains k && Region.free md ops listed k && lexHB md ops eff (k + 1) (listed.setIfInBounds k true)
  | true :: eff, k, listed => (Region.ready md ops listed == [k]) && lexHB md ops eff (k + 1) (listed.setIfInBounds k true)

/-- The walk in the order of the text. -/
def wpLexH (P : Program) (ops : Array Oper) (Q : Exit → Act → World → Prop) (S : World → Prop) : List Bool → List Oper → Act → World → Prop
  | [], _, a, w => Q .normal a w
  | _ :: _, [], _, _ => False
  | false :: eff, o :: rest, a, w =>
    if Region.wanted o (yielded ops a.tmps) = true then ∃ v, (∀ w', S w' → (execOp a.eval o).run P w' = .ok (.value v) w') ∧ wpLexH P ops Q S eff rest (a.put o.dst v) w
    else wpLexH P ops Q S eff rest (a.put o.dst undef) w
  | true :: eff, o :: rest, a, w =>
    if Region.wanted o (yielded ops a.tmps) = true then o.wp P a w (fun a' w' => S w' ∧ wpLexH P ops Q S eff rest a' w') Q
    else wpLexH P ops Q S eff rest (a.put o.dst undef) w

theorem putQ (hQ : ∀ c (a : Act) tm w, Q (.panic c) { a with tmps := tm } w → Q (.panic c) a w) (c : List PanicEntry) (a : Act) (d : Option Tmp) (v : Value) (w : World)
    (h : Q (.panic c) (Act.put a d v) w) : Q (.panic c) a w := by
  cases d with
  | none => exact h
  | some d => exact hQ c a _ w h

theorem anyH_of_lex (hs : Region.noSelect ops = true) (hQ : ∀ c (a : Act) tm w, Q (.panic c) { a with tmps := tm } w → Q (.panic c) a w) :
    ∀ (eff : List Bool) (l : List Oper) (k : Nat) (listed : Array Bool) (a : Act) (w : World), (∀ j, l[j]? = ops[k + j]?) → l.length = eff.length →
      lexHB md ops eff k listed = true → S w → wpLexH P ops Q S eff l a w → wpAnyH P md ops Q S eff.length listed a w
  | [], _, _, _, _, _, _, _, hB, _, h => ⟨by simpa [lexHB] using hB, h⟩
  | _ :: _, [], _, _, _, _, _, hl, _, _, _ => by simp at hl
  | false :: eff, o :: l, k, listed, a, w, hl, hlen, hB, hS, h => by
    have h0 : ops[k]? = some o := by simpa using (hl 0).symm
    simp only [lexHB, Bool.and_eq_true] at hB
    obtain ⟨⟨hr, hf⟩, hB'⟩ := hB
    have next : ∀ a', wpLexH P ops Q S eff l a' w → wpAnyH P md ops Q S eff.length (listed.setIfInBounds k true) a' w := fun a' h' =>
      anyH_of_lex hs hQ eff l (k + 1) _ a' w (fun j => by have := hl (j + 1); simpa [Nat.add_assoc, Nat.add_comm 1 j] using this) (by simpa using hlen) hB' hS h'
    unfold wpLexH at h
    split at h
    · rename_i hw
      obtain ⟨v, hv, h'⟩ := h
      exact wpAnyH_take h0 hs hf hr (fun c a w => putQ hQ c a _ _ w) (Or.inl ⟨hw, hv⟩) hS (next _ h')
    · rename_i hw
      exact wpAnyH_take h0 hs hf hr (fun c a w => putQ hQ c a _ _ w) (Or.inr ⟨by simpa using hw, rfl⟩) hS (next _ h)
  | true :: eff, o :: l, k, listed, a, w, hl, hlen, hB, hS, h => by
    have h0 : ops[k]? = some o := by simpa using (hl 0).symm
    simp only [lexHB, Bool.and_eq_true, beq_iff_eq] at hB
    obtain ⟨hr, hB'⟩ := hB
    have next : ∀ a' w', S w' → wpLexH P ops Q S eff l a' w' → wpAnyH P md ops Q S eff.length (listed.setIfInBounds k true) a' w' := fun a' w' hS' h' =>
      anyH_of_lex hs hQ eff l (k + 1) _ a' w' (fun j => by have := hl (j + 1); simpa [Nat.add_assoc, Nat.add_comm 1 j] using this) (by simpa using hlen) hB' hS' h'
    unfold wpLexH at h
    refine wpAnyH_all hr (by simp) (fun i hi => ?_)
    obtain rfl : i = k := by simpa using hi
    unfold wpOp
    rw [h0]
    simp only []
    split at h
    · rename_i hw
      rw [if_pos hw]
      exact .inl (Oper.wp_mono (fun a' w' ⟨h1, h2⟩ => ⟨h1, next a' w' h1 h2⟩) h)
    · rename_i hw
      rw [if_neg hw]
      exact ⟨hS, next _ _ hS h⟩

/-- THE BEGINNING. -/
theorem wp_region_lexH {id : Nat} {l : List Oper} {a : Act} {w : World} (S : World → Prop) (eff : List Bool) (hm : P.follows .mixedOrders = true) (hs : Region.noSelect l.toArray = true) (hlen : l.length = eff.length)
    (hB : lexHB .any l.toArray eff 0 (Array.replicate l.length false) = true) (hQ : ∀ c (a : Act) tm w, Q (.panic c) { a with tmps := tm } w → Q (.panic c) a w) (hS : S w.drew)
    (h : S w.drew → wpLexH P l.toArray Q S eff l a w.drew) : (Code.region id l.toArray true).wp P Q a w := by
  refine wp_region_held (S := S) hm ?_
  have := anyH_of_lex (md := .any) hs hQ eff l 0 (Array.replicate l.length false) a w.drew (by simp) hlen hB hS (h hS)
  rw [← hlen] at this
  simpa using this

theorem lex_done {a : Act} {w : World} {l : List Oper} (h : Q .normal a w) : wpLexH P ops Q S [] l a w := h
theorem lex_skip {eff : List Bool} {b : Bool} {o : Oper} {rest : List Oper} {a : Act} {w : World} (hw : Region.wanted o (yielded ops a.tmps) = false)
    (h : wpLexH P ops Q S eff rest (a.put o.dst undef) w) : wpLexH P ops Q S (b :: eff) (o :: rest) a w := by
  cases b <;> (unfold wpLexH; rw [if_neg (by rw [hw]; simp)]; exact h)
theorem lex_take {eff : List Bool} {o : Oper} {rest : List Oper} {a : Act} {w : World} {v : Value} (hw : Region.wanted o (yielded ops a.tmps) = true)
    (hv : ∀ w', S w' → (execOp a.eval o).run P w' = .ok (.value v) w') (h : wpLexH P ops Q S eff rest (a.put o.dst v) w) : wpLexH P ops Q S (false :: eff) (o :: rest) a w := by
  unfold wpLexH; rw [if_pos hw]; exact ⟨v, hv, h⟩
theorem lex_act {eff : List Bool} {o : Oper} {rest : List Oper} {a : Act} {w : World} (hw : Region.wanted o (yielded ops a.tmps) = true)
    (h : ∀ K : Act → World → Prop, Shut (∀ a' w', S w' → (S w' → wpLexH P ops Q S eff rest a' w') → K a' w') → o.wp P a w K Q) : wpLexH P ops Q S (true :: eff) (o :: rest) a w := by
  unfold wpLexH; rw [if_pos hw]; exact h _ (fun a' w' hS h' => ⟨hS, h' hS⟩)
attribute [irreducible] wpLexH
end
end Go.Proofs.Ytkjnjccjkjachaa
