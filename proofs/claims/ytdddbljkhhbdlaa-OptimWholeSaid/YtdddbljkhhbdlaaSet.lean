/-
Sets in memory; the contract of Light.
-/
import Derived.Test.YtdddbljkhhbdlaaMat
namespace Go.Proofs.Ytdddbljkhhbdlaa
open Go.RowKit

/-- A set, as a value. -/
def setV (r c wd : Int) (v : Value) (r2 c2 wd2 : Int) (v2 : Value) : Value := .agg #[.int .i64 r, .int .i64 c, .int .i64 wd, v, .int .i64 r2, .int .i64 c2, .int .i64 wd2, v2]

/-- A set in a block of its own. -/
structure SetAt (w : World) (g : Nat) (r c wd : Int) (v : Value) (r2 c2 wd2 : Int) (v2 : Value) : Prop where
  block : w.heap[g]? = some (.cells #[.int .i64 r, .int .i64 c, .int .i64 wd, v, .int .i64 r2, .int .i64 c2, .int .i64 wd2, v2] 47 (0, 0))
theorem SetAt.cell {w : World} {g : Nat} {r c wd : Int} {v : Value} {r2 c2 wd2 : Int} {v2 : Value} (h : SetAt w g r c wd v r2 c2 wd2 v2) (j : Nat) (u : Value) (hv : #[Value.int .i64 r, .int .i64 c, .int .i64 wd, v, .int .i64 r2, .int .i64 c2, .int .i64 wd2, v2][j]? = some u) : w.cell? ⟨g, j, none⟩ = some u := by
  rw [cell_of_row w g j _ 47 (0, 0) h.block]; exact hv
theorem SetAt.c0 {w : World} {g : Nat} {r c wd : Int} {v : Value} {r2 c2 wd2 : Int} {v2 : Value} (h : SetAt w g r c wd v r2 c2 wd2 v2) : w.cell? ⟨g, 0, none⟩ = some (.int .i64 r) := h.cell 0 _ rfl
theorem SetAt.c1 {w : World} {g : Nat} {r c wd : Int} {v : Value} {r2 c2 wd2 : Int} {v2 : Value} (h : SetAt w g r c wd v r2 c2 wd2 v2) : w.cell? ⟨g, 1, none⟩ = some (.int .i64 c) := h.cell 1 _ rfl
theorem SetAt.c2 {w : World} {g : Nat} {r c wd : Int} {v : Value} {r2 c2 wd2 : Int} {v2 : Value} (h : SetAt w g r c wd v r2 c2 wd2 v2) : w.cell? ⟨g, 2, none⟩ = some (.int .i64 wd) := h.cell 2 _ rfl
theorem SetAt.c3 {w : World} {g : Nat} {r c wd : Int} {v : Value} {r2 c2 wd2 : Int} {v2 : Value} (h : SetAt w g r c wd v r2 c2 wd2 v2) : w.cell? ⟨g, 3, none⟩ = some (v) := h.cell 3 _ rfl
theorem SetAt.c4 {w : World} {g : Nat} {r c wd : Int} {v : Value} {r2 c2 wd2 : Int} {v2 : Value} (h : SetAt w g r c wd v r2 c2 wd2 v2) : w.cell? ⟨g, 4, none⟩ = some (.int .i64 r2) := h.cell 4 _ rfl
theorem SetAt.c5 {w : World} {g : Nat} {r c wd : Int} {v : Value} {r2 c2 wd2 : Int} {v2 : Value} (h : SetAt w g r c wd v r2 c2 wd2 v2) : w.cell? ⟨g, 5, none⟩ = some (.int .i64 c2) := h.cell 5 _ rfl
theorem SetAt.c6 {w : World} {g : Nat} {r c wd : Int} {v : Value} {r2 c2 wd2 : Int} {v2 : Value} (h : SetAt w g r c wd v r2 c2 wd2 v2) : w.cell? ⟨g, 6, none⟩ = some (.int .i64 wd2) := h.cell 6 _ rfl
theorem SetAt.c7 {w : World} {g : Nat} {r c wd : Int} {v : Value} {r2 c2 wd2 : Int} {v2 : Value} (h : SetAt w g r c wd v r2 c2 wd2 v2) : w.cell? ⟨g, 7, none⟩ = some (v2) := h.cell 7 _ rfl
theorem SetAt.free {w : World} {g : Nat} {r c wd : Int} {v : Value} {r2 c2 wd2 : Int} {v2 : Value} (h : SetAt w g r c wd v r2 c2 wd2 v2) (j : Nat) : w.frozen? ⟨g, j, none⟩ = false := by
  simp [World.frozen?, h.block]
theorem SetAt.lt {w : World} {g : Nat} {r c wd : Int} {v : Value} {r2 c2 wd2 : Int} {v2 : Value} (h : SetAt w g r c wd v r2 c2 wd2 v2) : g < w.heap.size := (Array.getElem?_eq_some_iff.1 h.block).1
theorem SetAt.grown {w : World} {g : Nat} {r c wd : Int} {v : Value} {r2 c2 wd2 : Int} {v2 : Value} {w' : World} {q : Option Nat} (h : SetAt w g r c wd v r2 c2 wd2 v2) (hg : w.grownBy w' q) (hne : some g ≠ q) : SetAt w' g r c wd v r2 c2 wd2 v2 :=
  ⟨(hg.block g h.lt hne).trans h.block⟩
theorem SetAt.below {w : World} {g : Nat} {r c wd : Int} {v : Value} {r2 c2 wd2 : Int} {v2 : Value} {w' : World} (h : SetAt w g r c wd v r2 c2 wd2 v2) (hb : Below w.heap.size w w') : SetAt w' g r c wd v r2 c2 wd2 v2 :=
  ⟨(hb.block g h.lt).trans h.block⟩
theorem boxSet (w : World) (r c wd : Int) (v : Value) (r2 c2 wd2 : Int) (v2 : Value) : ∃ w1, w1 = w.alloc (.cells #[.int .i64 r, .int .i64 c, .int .i64 wd, v, .int .i64 r2, .int .i64 c2, .int .i64 wd2, v2] 47) ∧ SetAt w1 w.heap.size r c wd v r2 c2 wd2 v2 ∧ Below w.heap.size w w1 ∧ w1.heap.size = w.heap.size + 1 :=
  ⟨_, rfl, ⟨heap_alloc_new w _⟩, (Below.refl _ w).alloc (Nat.le_refl _) _, by simp [go_sem]⟩

set_option maxRecDepth 100000 in
set_option maxHeartbeats 2000000 in
theorem light_any (r c wd : Int) (a : Option Addr) (n cp : Nat) (r2 c2 wd2 : Int) (a2 : Option Addr) (n2 cp2 : Nat) (w : World) (h : n ≤ 1000000000) (h2 : n2 ≤ 1000000000) :
    Calls Try.prog 17 #[setV r c wd (.slice a n cp) r2 c2 wd2 (.slice a2 n2 cp2)] w fun e w' => e = .returned (.bool (decide ((n : Int) + (n2 : Int) ≤ 600))) ∧ Below w.heap.size w w' := by
  unfold setV
  go_enter Try.func17, Try.ntmps17
  go_wp2
  go_ret
  exact ⟨rfl, (Below.refl _ w).alloc (Nat.le_refl _) _⟩
end Go.Proofs.Ytdddbljkhhbdlaa
