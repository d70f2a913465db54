/-
The list that a step fills: so many results, noughts behind them; the rate and the three small numbers of an element.
-/
import Derived.Test.YtdddbljkhhbdlaaWholeFresh
import Derived.Test.YtdddbljkhhbdlaaWholeFin
import Derived.Laws.MakeOwn
namespace Go.Proofs.Ytdddbljkhhbdlaa
open Go.RowKit

def outC (n k : Nat) (f : Nat → Int) : Array Value := ((List.range n).map fun i => Value.int .i64 (if i < k then f i else 0)).toArray
theorem outC_size (n k : Nat) (f : Nat → Int) : (outC n k f).size = n := by simp [outC]
theorem outC_at (n k : Nat) (f : Nat → Int) (j : Nat) (h : j < n) : (outC n k f)[j]? = some (.int .i64 (if j < k then f j else 0)) := by
  simp [outC, h]
theorem outC_put (n k : Nat) (f : Nat → Int) (h : k < n) : (outC n k f).setIfInBounds k (.int .i64 (f k)) = outC n (k + 1) f := by
  apply Array.ext_getElem?
  intro j
  rw [Array.getElem?_setIfInBounds]
  by_cases hj : j < n
  · rw [outC_at n (k + 1) f j hj, outC_at n k f j hj, outC_size]
    by_cases e : k = j
    · subst e
      simp [hj]
    · rw [if_neg e]
      by_cases h1 : j < k
      · rw [if_pos h1, if_pos (by omega)]
      · rw [if_neg h1, if_neg (by omega)]
  · rw [if_neg (by omega), Array.getElem?_eq_none (by rw [outC_size]; omega), Array.getElem?_eq_none (by rw [outC_size]; omega)]
theorem outC_made (n : Nat) (f : Nat → Int) : madeCells (Value.int .i64 0).cells (n * 1) = outC n 0 f := by
  apply Array.ext
  · rw [outC_size]; simp [madeCells]
  · intro j h1 h2
    simp [madeCells, outC, Value.cells]
    rw [Nat.mod_one]
    rfl
theorem made_run (n : Nat) (f : Nat → Int) (hn : n ≤ 60) (w : World) : (Instr.makeSlice 43 (.int .i64 n) (.int .i64 n)).run Try.prog w = .ok (.slice (some ⟨w.heap.size, 0, none⟩) n n) (w.alloc (.cells (outC n 0 f) 3)) := by
  obtain ⟨i, hi, hz, h1, h8⟩ := info_parts elem43.info
  have h := run_make (P := Try.prog) w 43 3 i (.int .i64 0) Try.underlying43 hi hz .i64 .i64 n n (by omega) (by omega) (by rw [h8]; omega) (by omega)
  rw [h1, Int.toNat_natCast, outC_made n f] at h
  exact h
/-- A list of so many numbers. -/
def rangeI (n : Nat) (f : Nat → Int) : List Int := (List.range n).map f
theorem rangeI_length (n : Nat) (f : Nat → Int) : (rangeI n f).length = n := by simp [rangeI]
theorem rangeI_at (n : Nat) (f : Nat → Int) (j : Nat) (h : j < n) : (rangeI n f).getD j 0 = f j := by simp [rangeI, h]
end Go.Proofs.Ytdddbljkhhbdlaa
