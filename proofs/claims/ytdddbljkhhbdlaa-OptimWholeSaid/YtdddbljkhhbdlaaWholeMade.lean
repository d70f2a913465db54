/-
What a step of the rule whose numbers are all 0 makes.
-/
import Derived.Test.YtdddbljkhhbdlaaWholeElem
import Derived.Deep.RegionHeld3
import Derived.Deep.CutRange
namespace Go.Proofs.Ytdddbljkhhbdlaa
open Go.RowKit
attribute [local go_sem] run_store_float

/-- What stands behind the region that makes the answer. -/
def MadeOut (w w0 : World) (n wd : Nat) (f : Nat → Int) (s15 : Value) : Prop :=
  ∃ gO gB : Nat, s15 = .pointer (some ⟨gO, 0, none⟩) ∧ w0.heap.size ≤ gO ∧ w0.heap.size ≤ gB ∧ gO ≠ gB ∧ MatAt w gO 1 n wd (.slice (some ⟨gB, 0, none⟩) n n) ∧ TBox w gB 3 (outC n 0 f) ∧ Below w0.heap.size w0 w
theorem TBox.put4 {w : World} {g : Nat} {e : TypeId} {a b c d : Value} (h : TBox w g e #[a, b, c, d]) (a' b' c' d' : Value) :
    TBox ((((w.setCell ⟨g, 0, none⟩ a').setCell ⟨g, 1, none⟩ b').setCell ⟨g, 2, none⟩ c').setCell ⟨g, 3, none⟩ d') g e #[a', b', c', d'] ∧ w.grownBy ((((w.setCell ⟨g, 0, none⟩ a').setCell ⟨g, 1, none⟩ b').setCell ⟨g, 2, none⟩ c').setCell ⟨g, 3, none⟩ d') (some g) := by
  obtain ⟨h1, g1⟩ := h.put 0 a'
  obtain ⟨h2, g2⟩ := h1.put 1 b'
  obtain ⟨h3, g3⟩ := h2.put 2 c'
  obtain ⟨h4, g4⟩ := h3.put 3 d'
  exact ⟨h4, ((g1.trans g2).trans g3).trans g4⟩
theorem newBox (w : World) (e : TypeId) (cs : Array Value) : ∃ g, Value.pointer (some ⟨w.heap.size, 0, none⟩) = .pointer (some ⟨g, 0, none⟩) ∧ w.heap.size ≤ g ∧ TBox (w.alloc (.cells cs e)).drew g e cs ∧ Below w.heap.size w (w.alloc (.cells cs e)).drew := by
  obtain ⟨w1, e1, hB, hb1, _⟩ := tbox w e cs
  rw [← e1]
  exact ⟨_, rfl, Nat.le_refl _, hB.grown (grownBy_drew w1 none) (by simp), hb1.drew⟩
theorem madeOut_a (w0 : World) (n wd : Nat) (f : Nat → Int) : MadeOut ((w0.alloc (.cells (outC n 0 f) 3)).alloc (.cells #[.int .i64 1, .int .i64 n, .int .i64 wd, .slice (some ⟨w0.heap.size, 0, none⟩) n n] 45)).drew w0 n wd f (.pointer (some ⟨w0.heap.size + 1, 0, none⟩)) := by
  obtain ⟨w1, e1, hB, hb1, hs1⟩ := tbox w0 3 (outC n 0 f)
  rw [← e1]
  obtain ⟨w2, e2, hO, hb2, hs2⟩ := boxM w1 1 n wd (.slice (some ⟨w0.heap.size, 0, none⟩) n n)
  rw [← e2]
  rw [hs1] at hO
  exact ⟨w0.heap.size + 1, w0.heap.size, rfl, by omega, by omega, by omega, hO.grown (grownBy_drew w2 none) (by simp), (hB.below hb2).grown (grownBy_drew w2 none) (by simp), (hb1.trans (hb2.mono hb1.size)).drew⟩
theorem madeOut_b (w0 : World) (n wd : Nat) (f : Nat → Int) : MadeOut ((w0.alloc (.cells #[.int .i64 1, .int .i64 n, .int .i64 wd, .slice (some ⟨w0.heap.size + 1, 0, none⟩) n n] 45)).alloc (.cells (outC n 0 f) 3)).drew w0 n wd f (.pointer (some ⟨w0.heap.size, 0, none⟩)) := by
  obtain ⟨w1, e1, hO, hb1, hs1⟩ := boxM w0 1 n wd (.slice (some ⟨w0.heap.size + 1, 0, none⟩) n n)
  rw [← e1]
  obtain ⟨w2, e2, hB, hb2, hs2⟩ := tbox w1 3 (outC n 0 f)
  rw [← e2]
  rw [hs1] at hB
  exact ⟨w0.heap.size, w0.heap.size + 1, rfl, by omega, by omega, by omega, (hO.below hb2).grown (grownBy_drew w2 none) (by simp), hB.grown (grownBy_drew w2 none) (by simp), (hb1.trans (hb2.mono hb1.size)).drew⟩
end Go.Proofs.Ytdddbljkhhbdlaa
