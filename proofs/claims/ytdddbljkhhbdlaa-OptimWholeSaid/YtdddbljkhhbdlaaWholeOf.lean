/-
optim.of at the rule whose numbers are all 0.
-/
import Derived.Test.YtdddbljkhhbdlaaWholeRead
import Derived.StillTailTactics
import Derived.Deep.CutRange
namespace Go.Proofs.Ytdddbljkhhbdlaa
open Go.RowKit
attribute [local go_sem] run_store_float

/-- The rule whose numbers are all 0. -/
def rule0 : Value := .agg #[.int .i64 0, .int .i64 0, .int .i64 0, .int .i64 0, .int .i64 0, .int .i64 0, .int .i64 0]

set_option maxRecDepth 100000 in
set_option maxHeartbeats 2000000 in
theorem of32 (b : Int) (x : Nat) (hx : ∀ w, Calls Try.prog 96 #[.int .i64 b] w fun e w' => e = .returned (.float .f32 x) ∧ w' = w) (w : World) :
    Calls Try.prog 141 #[rule0, .int .i64 b] w fun e w' => e = .returned (.agg #[.float .f32 x, .float .f32 0, .float .f32 0, .float .f32 0, .float .f32 0, .float .f32 0]) ∧ Below w.heap.size w w' := by
  unfold rule0
  go_enter Try.func141, Try.ntmps141
  go_upto_region 1 with fail
  refine wp_region_still_tail 18 (by kernel_rfl) (by kernel_rfl) ?_
  simp only [List.take_succ_cons, List.take_zero, List.drop_succ_cons, List.drop_zero]
  change wpStill _ _ (World.drew _) _ _ _
  still_step
  still_call (hx _)
  repeat (first | still_step | still_call (zero_narrow32 _))
  refine wpStill_nil ?_
  change wpList _ _ _ _ _ (World.drew _)
  go_wp2
  refine bodyPost_ret (by simp [results, Try.results141, go_sem]; try rfl) rfl ⟨rfl, ?_⟩
  exact (((Below.refl _ w).alloc (Nat.le_refl _) _).alloc (by simp) _).drew

set_option maxRecDepth 100000 in
set_option maxHeartbeats 2000000 in
theorem of64 (b : Int) (x : Nat) (hx : ∀ w, Calls Try.prog 173 #[.int .i64 b] w fun e w' => e = .returned (.float .f64 x) ∧ w' = w) (w : World) :
    Calls Try.prog 146 #[rule0, .int .i64 b] w fun e w' => e = .returned (.agg #[.float .f64 x, .float .f64 0, .float .f64 0, .float .f64 0, .float .f64 0, .float .f64 0]) ∧ Below w.heap.size w w' := by
  unfold rule0
  go_enter Try.func146, Try.ntmps146
  go_upto_region 1 with fail
  refine wp_region_still_tail 18 (by kernel_rfl) (by kernel_rfl) ?_
  simp only [List.take_succ_cons, List.take_zero, List.drop_succ_cons, List.drop_zero]
  change wpStill _ _ (World.drew _) _ _ _
  still_step
  still_call (hx _)
  repeat (first | still_step | still_call (zero_narrow64 _))
  refine wpStill_nil ?_
  change wpList _ _ _ _ _ (World.drew _)
  go_wp2
  refine bodyPost_ret (by simp [results, Try.results146, go_sem]; try rfl) rfl ⟨rfl, ?_⟩
  exact (((Below.refl _ w).alloc (Nat.le_refl _) _).alloc (by simp) _).drew
end Go.Proofs.Ytdddbljkhhbdlaa
