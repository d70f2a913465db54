/-
Matrices as values and in memory, lists of numbers that are read; the contract of tensor.Check.
-/
import Derived.Test.YtdddbljkhhbdlaaSized
import Derived.Test.YtdddbljkhhbdlaaRefClass
import Derived.Test.YtdddbljkhhbdlaaOwn2
import Derived.Test.YtdddbljkhhbdlaaSame
namespace Go.Proofs.Ytdddbljkhhbdlaa
open Go.RowKit

/-- A list of numbers that can be read. -/
def ReadI (w : World) (v : Value) (xs : List Int) : Prop :=
  (v = .slice none 0 0 ∧ xs = []) ∨ ∃ b off c, v = .slice (some ⟨b, off, none⟩) xs.length c ∧ xs.length ≤ c ∧ ∀ j, j < xs.length → w.cell? ⟨b, off + j, none⟩ = some (.int .i64 (xs.getD j 0))
theorem ReadI.below {w w' : World} {v : Value} {xs : List Int} (h : ReadI w v xs) (hb : Below w.heap.size w w') : ReadI w' v xs := by
  rcases h with h | ⟨b, off, c, hv, hc, hr⟩
  · exact .inl h
  · exact .inr ⟨b, off, c, hv, hc, fun j hj => (hb.cell (p := ⟨b, off + j, none⟩) (by exact World.block_lt_of_cell? _ _ (hr j hj))).trans (hr j hj)⟩
theorem ReadI.own {w : World} {B : Nat} {v : Value} {xs : List Int} (h : w.ownsRow B 3 1 v xs.length (cellsI xs)) : ReadI w v xs := by
  rcases h.2 with ⟨rfl, h0⟩ | ⟨g, cap, cur, rfl, hb, hg, hn, _⟩
  · exact .inl ⟨rfl, List.length_eq_zero_iff.1 h0⟩
  · exact .inr ⟨g, 0, cap, rfl, hn, fun j hj => by rw [Nat.zero_add]; exact own_cellI h j hj⟩

def matV (r c w : Int) (v : Value) : Value := .agg #[.int .i64 r, .int .i64 c, .int .i64 w, v]
/-- A matrix in a block of its own. -/
structure MatAt (w : World) (g : Nat) (r c wd : Int) (v : Value) : Prop where
  block : w.heap[g]? = some (.cells #[.int .i64 r, .int .i64 c, .int .i64 wd, v] 45 (0, 0))
theorem MatAt.cell {w : World} {g : Nat} {r c wd : Int} {v : Value} (h : MatAt w g r c wd v) (j : Nat) (u : Value) (hv : #[Value.int .i64 r, .int .i64 c, .int .i64 wd, v][j]? = some u) : w.cell? ⟨g, j, none⟩ = some u := by
  rw [cell_of_row w g j _ 45 (0, 0) h.block]; exact hv
theorem MatAt.c0 {w : World} {g : Nat} {r c wd : Int} {v : Value} (h : MatAt w g r c wd v) : w.cell? ⟨g, 0, none⟩ = some (.int .i64 r) := h.cell 0 _ rfl
theorem MatAt.c1 {w : World} {g : Nat} {r c wd : Int} {v : Value} (h : MatAt w g r c wd v) : w.cell? ⟨g, 1, none⟩ = some (.int .i64 c) := h.cell 1 _ rfl
theorem MatAt.c2 {w : World} {g : Nat} {r c wd : Int} {v : Value} (h : MatAt w g r c wd v) : w.cell? ⟨g, 2, none⟩ = some (.int .i64 wd) := h.cell 2 _ rfl
theorem MatAt.c3 {w : World} {g : Nat} {r c wd : Int} {v : Value} (h : MatAt w g r c wd v) : w.cell? ⟨g, 3, none⟩ = some v := h.cell 3 _ rfl
theorem MatAt.free {w : World} {g : Nat} {r c wd : Int} {v : Value} (h : MatAt w g r c wd v) (j : Nat) : w.frozen? ⟨g, j, none⟩ = false := by
  simp [World.frozen?, h.block]
theorem MatAt.lt {w : World} {g : Nat} {r c wd : Int} {v : Value} (h : MatAt w g r c wd v) : g < w.heap.size := (Array.getElem?_eq_some_iff.1 h.block).1
theorem MatAt.grown {w w' : World} {g : Nat} {r c wd : Int} {v : Value} {q : Option Nat} (h : MatAt w g r c wd v) (hg : w.grownBy w' q) (hne : some g ≠ q) : MatAt w' g r c wd v :=
  ⟨(hg.block g h.lt hne).trans h.block⟩
theorem MatAt.below {w w' : World} {g : Nat} {r c wd : Int} {v : Value} (h : MatAt w g r c wd v) (hb : Below w.heap.size w w') : MatAt w' g r c wd v :=
  ⟨(hb.block g h.lt).trans h.block⟩
theorem boxM (w : World) (r c wd : Int) (v : Value) : ∃ w1, w1 = w.alloc (.cells #[.int .i64 r, .int .i64 c, .int .i64 wd, v] 45) ∧ MatAt w1 w.heap.size r c wd v ∧ Below w.heap.size w w1 ∧ w1.heap.size = w.heap.size + 1 :=
  ⟨_, rfl, ⟨heap_alloc_new w _⟩, (Below.refl _ w).alloc (Nat.le_refl _) _, by simp [go_sem]⟩

/-- Are all bits of the width? -/
def fitI (wd : Int) (xs : List Int) : Bool := wd == 64 || xs.all fun x => decide (0 ≤ x ∧ x ≤ 4294967295)
/-- The error of a matrix. -/
def matE (r c wd : Int) (xs : List Int) : Int := if szE r c wd ≠ 0 then szE r c wd else if (xs.length : Int) ≠ r * c then 4 else if fitI wd xs then 0 else 6

set_option maxHeartbeats 1000000 in
theorem valid_all (b w : Int) (h : w = 32 ∨ w = 64) (W : World) : Calls Try.prog 131 #[.int .i64 b, .int .i64 w] W fun e W' => e = .returned (.bool (w == 64 || decide (0 ≤ b ∧ b ≤ 4294967295))) ∧ W' = W := by
  rcases h with rfl | rfl
  · by_cases hb : 0 ≤ b ∧ b ≤ 4294967295
    · rw [decide_eq_true hb]
      obtain ⟨h0, h1⟩ := hb
      go_enter Try.func131, Try.ntmps131
      go_wp2
      go_ret
      exact ⟨by simp, rfl⟩
    · rw [decide_eq_false hb]
      have hw : (b == b % 4294967296) = false := by
        simp
        omega
      go_enter Try.func131, Try.ntmps131
      go_wp2
      go_ret
      exact ⟨rfl, rfl⟩
  · go_enter Try.func131, Try.ntmps131
    go_wp2
    go_ret
    exact ⟨rfl, rfl⟩
end Go.Proofs.Ytdddbljkhhbdlaa
