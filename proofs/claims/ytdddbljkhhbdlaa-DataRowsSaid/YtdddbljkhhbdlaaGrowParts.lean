/-
What growInts' rounds keep: lemmas on worlds, without the walk.
-/
import Derived.Test.YtdddbljkhhbdlaaBook
namespace Go.Proofs.Ytdddbljkhhbdlaa
open Go.RowKit

/-- Behind k rounds of growInts: what has been grown (V'), what it was grown from (V), the list of the grown ones. -/
structure GrowI (w : World) (B n k : Nat) (O v0 : Value) (V V' : Nat → Value) (N : Nat → Nat) : Prop where
  out : w.ownsRow B 43 1 O k ((List.range k).map V')
  rows : ∀ j, j < k → w.ownsRow B 3 1 (V' j) (N j + 96) (cellsI (marksI j 0 (N j + 96)))
  far : ∀ j i, j < k → i < n → k ≤ i → (V' j).ownBlock = none ∨ (V' j).ownBlock ≠ (V i).ownBlock
  top : w.ownsRow B 43 1 v0 n ((List.range n).map V)
  apart : O.ownBlock = none ∨ O.ownBlock ≠ v0.ownBlock
  base : Lists cellsI 3 1 w B n V (fun i => marksI i 0 (N i))

/-- The list that is being grown in the round k: so many more. -/
structure LineI (w : World) (B n k : Nat) (V V' : Nat → Value) (N : Nat → Nat) (L : Value) (c : Nat) : Prop where
  own : w.ownsRow B 3 1 L (N k + c) (cellsI (marksI k 0 (N k + c)))
  far : ∀ i, i < n → i ≠ k → L.ownBlock = none ∨ L.ownBlock ≠ (V i).ownBlock
  far2 : ∀ j, j < k → L.ownBlock = none ∨ L.ownBlock ≠ (V' j).ownBlock

theorem ne_symm {a b : Option Nat} (h : a = none ∨ a ≠ b) : b = none ∨ b ≠ a := by
  rcases h with h | h
  · cases b with
    | none => exact .inl rfl
    | some b => right; rw [h]; simp
  · exact .inr fun e => h e.symm

theorem GrowI.below {w w' : World} {B n k : Nat} {O v0 : Value} {V V' : Nat → Value} {N : Nat → Nat} (h : GrowI w B n k O v0 V V' N) (hb : Below w.heap.size w w') : GrowI w' B n k O v0 V V' N :=
  ⟨own_below h.out hb (Nat.le_refl _), fun j hj => own_below (h.rows j hj) hb (Nat.le_refl _), h.far, own_below h.top hb (Nat.le_refl _), h.apart, h.base.below hb⟩
theorem LineI.below {w w' : World} {B n k : Nat} {V V' : Nat → Value} {N : Nat → Nat} {L : Value} {c : Nat} (h : LineI w B n k V V' N L c) (hb : Below w.heap.size w w') : LineI w' B n k V V' N L c :=
  ⟨own_below h.own hb (Nat.le_refl _), h.far, h.far2⟩

/-- The round's begin: the list is the book's own. -/
theorem LineI.start {w : World} {B n k : Nat} {O v0 : Value} {V V' : Nat → Value} {N : Nat → Nat} (h : GrowI w B n k O v0 V V' N) (hk : k < n) : LineI w B n k V V' N (V k) 0 := by
  refine ⟨?_, fun i hi hne => h.base.apart k i hk hi (fun e => hne e.symm), fun j hj => ne_symm (h.far j k hj hk (Nat.le_refl _))⟩
  have := h.base.row k hk
  rw [marksI_length] at this
  exact this

/-- The list grows. -/
theorem grow_line {w w' : World} {B n k : Nat} {O v0 : Value} {V V' : Nat → Value} {N : Nat → Nat} {L L' : Value} {c m : Nat} (h : GrowI w B n k O v0 V V' N) (hl : LineI w B n k V V' N L c) (hk : k < n)
    (hA : Appended w w' B 3 1 L (N k + c) (cellsI (marksI k 0 (N k + c))) (cellsI (marksI k (N k + c) m)) m L') : GrowI w' B n k O v0 V V' N ∧ LineI w' B n k V V' N L' (c + m) := by
  have hg := hA.grown
  have fresh : ∀ (b : Nat) (u : Value) (x : Nat) (xs : List Value), w.ownsRow b 3 1 u x xs → (L.ownBlock = none ∨ L.ownBlock ≠ u.ownBlock) → L'.ownBlock = none ∨ L'.ownBlock ≠ u.ownBlock := by
    intro b u x xs hu hL
    rcases hA.lies with e | e
    · rw [e]; exact hL
    · right
      rw [e]
      intro hh
      have := (hu.lt _ hh.symm).2
      omega
  refine ⟨⟨h.out.kept hg (own_other h.out hl.own (by decide)), fun j hj => (h.rows j hj).kept hg (ne_symm (hl.far2 j hj)), h.far, h.top.kept hg (own_other h.top hl.own (by decide)), h.apart, ⟨fun i hi => ?_, h.base.apart⟩⟩, ⟨?_, fun i hi hne => fresh _ _ _ _ (h.base.row i hi) (hl.far i hi hne), fun j hj => fresh _ _ _ _ (h.rows j hj) (hl.far2 j hj)⟩⟩
  · by_cases e : i = k
    · subst e
      exact hA.keep _ _ _ _ (h.base.row i hi) (by rw [marksI_length]; omega)
    · exact (h.base.row i hi).kept hg (ne_symm (hl.far i hi e))
  · have := hA.own
    rw [← cellsI_append] at this
    have e := marksI_append k 0 (N k + c) m
    rw [Nat.zero_add] at e
    rw [e, Nat.add_assoc] at this
    exact this

theorem appended_cast {w w' : World} {B k len x j m : Nat} {L L' : Value} (e : len = x) (hA : Appended w w' B 3 1 L (len + j) (cellsI (marksI k 0 (len + j))) (cellsI (marksI k (len + j) m)) m L') :
    Appended w w' B 3 1 L (x + j) (cellsI (marksI k 0 (x + j))) (cellsI (marksI k (x + j) m)) m L' := by subst e; exact hA

/-- The grown list is put behind the others. -/
theorem grow_out {w w' : World} {B n k : Nat} {O O' v0 : Value} {V V' : Nat → Value} {N : Nat → Nat} {L : Value} (h : GrowI w B n k O v0 V V' N) (hl : LineI w B n k V V' N L 96) (hk : k < n)
    (hA : Appended w w' B 43 1 O k ((List.range k).map V') [L] 1 O') : GrowI w' B n (k + 1) O' v0 V (fun j => if j = k then L else V' j) N := by
  have hg := hA.grown
  have hmap : (List.range (k + 1)).map (fun j => if j = k then L else V' j) = (List.range k).map V' ++ [L] := by
    rw [List.range_succ, List.map_append]
    congr 1
    · apply List.map_congr_left
      intro j hj
      rw [if_neg (by have := List.mem_range.1 hj; omega)]
    · simp
  refine ⟨by rw [hmap]; exact hA.own, fun j hj => ?_, fun j i hj hi hki => ?_, h.top.kept hg (ne_symm h.apart), ?_, ⟨fun i hi => (h.base.row i hi).kept hg (own_other (h.base.row i hi) h.out (by decide)), h.base.apart⟩⟩
  · by_cases e : j = k
    · subst e
      simp only [if_true]
      exact hl.own.kept hg (own_other hl.own h.out (by decide))
    · simp only [if_neg e]
      have hj' : j < k := by omega
      exact (h.rows j hj').kept hg (own_other (h.rows j hj') h.out (by decide))
  · by_cases e : j = k
    · subst e
      simp only [if_true]
      exact hl.far i hi (by omega)
    · simp only [if_neg e]
      exact h.far j i (by omega) hi (by omega)
  · rcases hA.lies with e | e
    · rw [e]; exact h.apart
    · right
      rw [e]
      intro hh
      have := (h.top.lt _ hh.symm).2
      omega
end Go.Proofs.Ytdddbljkhhbdlaa
