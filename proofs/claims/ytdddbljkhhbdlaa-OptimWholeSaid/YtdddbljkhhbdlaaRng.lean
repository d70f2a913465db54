/-
The contracts of rng's mix, key and word, and of the document's own.
-/
import Derived.Test.YtdddbljkhhbdlaaProg
import Derived.Test.YtdddbljkhhbdlaaMath
import Derived.Deep.RegionHeld3
namespace Go.Proofs.Ytdddbljkhhbdlaa
open Go.RowKit

/-- A word mixed. -/
def mx1 (z : Int) : Int := IntKind.u64.wrap (bits BinOp.xor IntKind.u64 z (z / 1073741824) * 13787848793156543929)
def mx2 (z : Int) : Int := IntKind.u64.wrap (bits BinOp.xor IntKind.u64 z (z / 134217728) * 10723151780598845931)
def mx (z : Int) : Int := bits BinOp.xor IntKind.u64 (mx2 (mx1 z)) (mx2 (mx1 z) / 2147483648)

set_option maxHeartbeats 1000000 in
theorem mix_any (z : Int) (w : World) :
    Calls Try.prog 206 #[.int .u64 z] w fun e w' => e = .returned (.int .u64 (mx z)) ∧ w' = w := by
  go_enter Try.func206, Try.ntmps206
  go_wp2
  go_ret
  exact ⟨rfl, rfl⟩
set_option maxHeartbeats 1000000 in
theorem mixr_any (z : Int) (w : World) :
    Calls Try.prog 208 #[.int .u64 z] w fun e w' => e = .returned (.int .u64 (mx z)) ∧ w' = w := by
  go_enter Try.func208, Try.ntmps208
  go_wp2
  go_ret
  exact ⟨rfl, rfl⟩

/-- A seed's and stream's key. -/
def keyU (s t : Int) : Int := mx (bits BinOp.xor IntKind.u64 (IntKind.u64.wrap s) (mx (IntKind.u64.wrap (IntKind.u64.wrap t + 7146057691288625177))))
/-- The word at a place. -/
def wordU (s t a : Int) : Int := mx (IntKind.u64.wrap (keyU s t + IntKind.u64.wrap (IntKind.u64.wrap (IntKind.u64.wrap (IntKind.u64.wrap a + 0) + 1) * 11400714819323198485)))

def drawV (s t a : Int) : Value := .agg #[.int .i64 s, .int .i64 t, .int .i64 a]

set_option maxHeartbeats 1000000 in
theorem key_any (s t a : Int) (w : World) :
    Calls Try.prog 207 #[drawV s t a] w fun e w' => e = .returned (.int .u64 (keyU s t)) ∧ Below w.heap.size w w' := by
  unfold drawV
  go_enter Try.func207, Try.ntmps207
  go_wp2
  go_quiet ((go_at_call 206; exact Calls.quiet_of_same (mix_any _ _)))
  go_wp2
  go_ret
  exact ⟨rfl, below_drewN ((Below.refl _ w).alloc (Nat.le_refl _) _) _⟩
set_option maxHeartbeats 1000000 in
theorem keyr_any (s t a : Int) (w : World) :
    Calls Try.prog 209 #[drawV s t a] w fun e w' => e = .returned (.int .u64 (keyU s t)) ∧ Below w.heap.size w w' := by
  unfold drawV
  go_enter Try.func209, Try.ntmps209
  go_wp2
  go_quiet ((go_at_call 208; exact Calls.quiet_of_same (mixr_any _ _)))
  go_wp2
  go_ret
  exact ⟨rfl, below_drewN ((Below.refl _ w).alloc (Nat.le_refl _) _) _⟩

theorem boxed (w : World) (s t a : Int) : ∃ w1, w1 = w.alloc (.cells #[.int .i64 s, .int .i64 t, .int .i64 a] 141) ∧ Below w.heap.size w w1 ∧
    w1.cell? ⟨w.heap.size, 0, none⟩ = some (.int .i64 s) ∧ w1.cell? ⟨w.heap.size, 1, none⟩ = some (.int .i64 t) ∧ w1.cell? ⟨w.heap.size, 2, none⟩ = some (.int .i64 a) :=
  ⟨_, rfl, (Below.refl _ w).alloc (Nat.le_refl _) _, by simp [go_sem], by simp [go_sem], by simp [go_sem]⟩
set_option maxHeartbeats 1000000 in
theorem word_any (s t a : Int) (w : World) :
    Calls Try.prog 197 #[drawV s t a, .int .i64 0] w fun e w' => e = .returned (.int .u64 (wordU s t a)) ∧ Below w.heap.size w w' := by
  unfold drawV
  go_enter Try.func197, Try.ntmps197
  go_wp2
  obtain ⟨w1, hw1, hb1, e0, e1, e2⟩ := boxed w s t a
  rw [← hw1]
  clear hw1
  go_region_held3 (fun w' => w'.cell? ⟨w.heap.size, 0, none⟩ = some (.int .i64 s) ∧ w'.cell? ⟨w.heap.size, 1, none⟩ = some (.int .i64 t) ∧ w'.cell? ⟨w.heap.size, 2, none⟩ = some (.int .i64 a)) (first | exact ⟨e0, e1, e2⟩ | exact ⟨d0, d1, d2⟩)
    (first
      | (go_at_call 207; go_must (refine (key_any s t a _).mono ?_; rintro e w2 ⟨rfl, hb2⟩ ; have d0 := (hb2.cell (p := ⟨w.heap.size, 0, none⟩) (by exact World.block_lt_of_cell? _ _ e0)).trans (by exact e0) ; have d1 := (hb2.cell (p := ⟨w.heap.size, 1, none⟩) (by exact World.block_lt_of_cell? _ _ e1)).trans (by exact e1) ; have d2 := (hb2.cell (p := ⟨w.heap.size, 2, none⟩) (by exact World.block_lt_of_cell? _ _ e2)).trans (by exact e2)))
      | (go_at_call 206; go_must (refine (mix_any _ _).mono ?_; rintro e w3 ⟨rfl, rfl⟩)))
  go_wp2
  go_ret
  exact ⟨rfl, hb1.drew.trans (hb2.mono hb1.size)⟩
set_option maxHeartbeats 1000000 in
theorem wordr_any (s t a : Int) (w : World) :
    Calls Try.prog 198 #[drawV s t a, .int .i64 0] w fun e w' => e = .returned (.int .i64 (IntKind.i64.wrap (wordU s t a))) ∧ Below w.heap.size w w' := by
  unfold drawV
  go_enter Try.func198, Try.ntmps198
  go_wp2
  obtain ⟨w1, hw1, hb1, e0, e1, e2⟩ := boxed w s t a
  rw [← hw1]
  clear hw1
  go_region_held3 (fun w' => w'.cell? ⟨w.heap.size, 0, none⟩ = some (.int .i64 s) ∧ w'.cell? ⟨w.heap.size, 1, none⟩ = some (.int .i64 t) ∧ w'.cell? ⟨w.heap.size, 2, none⟩ = some (.int .i64 a)) (first | exact ⟨e0, e1, e2⟩ | exact ⟨d0, d1, d2⟩)
    (first
      | (go_at_call 209; go_must (refine (keyr_any s t a _).mono ?_; rintro e w2 ⟨rfl, hb2⟩ ; have d0 := (hb2.cell (p := ⟨w.heap.size, 0, none⟩) (by exact World.block_lt_of_cell? _ _ e0)).trans (by exact e0) ; have d1 := (hb2.cell (p := ⟨w.heap.size, 1, none⟩) (by exact World.block_lt_of_cell? _ _ e1)).trans (by exact e1) ; have d2 := (hb2.cell (p := ⟨w.heap.size, 2, none⟩) (by exact World.block_lt_of_cell? _ _ e2)).trans (by exact e2)))
      | (go_at_call 208; go_must (refine (mixr_any _ _).mono ?_; rintro e w3 ⟨rfl, rfl⟩)))
  go_wp2
  go_ret
  exact ⟨rfl, hb1.drew.trans (hb2.mono hb1.size)⟩
end Go.Proofs.Ytdddbljkhhbdlaa
