/-
A value's cells in a block of its own, of whatever type.
-/
import Derived.Test.YtdddbljkhhbdlaaMat
import Derived.Test.YtdddbljkhhbdlaaBelow
namespace Go.Proofs.Ytdddbljkhhbdlaa
open Go.RowKit

/-- Cells in a block of their own. -/
structure TBox (w : World) (g : Nat) (e : TypeId) (cs : Array Value) : Prop where
  block : w.heap[g]? = some (.cells cs e (0, 0))
theorem TBox.cell {w : World} {g : Nat} {e : TypeId} {cs : Array Value} (h : TBox w g e cs) (j : Nat) (u : Value) (hv : cs[j]? = some u) : w.cell? ⟨g, j, none⟩ = some u := by
  rw [cell_of_row w g j _ e (0, 0) h.block]; exact hv
theorem TBox.free {w : World} {g : Nat} {e : TypeId} {cs : Array Value} (h : TBox w g e cs) (j : Nat) : w.frozen? ⟨g, j, none⟩ = false := by
  simp [World.frozen?, h.block]
theorem TBox.lt {w : World} {g : Nat} {e : TypeId} {cs : Array Value} (h : TBox w g e cs) : g < w.heap.size := (Array.getElem?_eq_some_iff.1 h.block).1
theorem TBox.grown {w w' : World} {g : Nat} {e : TypeId} {cs : Array Value} {q : Option Nat} (h : TBox w g e cs) (hg : w.grownBy w' q) (hne : some g ≠ q) : TBox w' g e cs :=
  ⟨(hg.block g h.lt hne).trans h.block⟩
theorem TBox.below {w w' : World} {g : Nat} {e : TypeId} {cs : Array Value} (h : TBox w g e cs) (hb : Below w.heap.size w w') : TBox w' g e cs :=
  ⟨(hb.block g h.lt).trans h.block⟩
theorem tbox (w : World) (e : TypeId) (cs : Array Value) : ∃ w1, w1 = w.alloc (.cells cs e) ∧ TBox w1 w.heap.size e cs ∧ Below w.heap.size w w1 ∧ w1.heap.size = w.heap.size + 1 :=
  ⟨_, rfl, ⟨heap_alloc_new w _⟩, (Below.refl _ w).alloc (Nat.le_refl _) _, by simp [go_sem]⟩
theorem TBox.put {w : World} {g : Nat} {e : TypeId} {cs : Array Value} (h : TBox w g e cs) (j : Nat) (v : Value) : TBox (w.setCell ⟨g, j, none⟩ v) g e (cs.setIfInBounds j v) ∧ w.grownBy (w.setCell ⟨g, j, none⟩ v) (some g) := by
  refine ⟨⟨?_⟩, grownBy_setCell w g j v⟩
  simp only [World.setCell, Array.getElem?_modify, if_true, h.block, Option.map_some]
  rfl
end Go.Proofs.Ytdddbljkhhbdlaa
