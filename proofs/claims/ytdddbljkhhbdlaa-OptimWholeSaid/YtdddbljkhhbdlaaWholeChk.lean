/-
optim.Check at the rule whose numbers are all 0.
-/
import Derived.Test.YtdddbljkhhbdlaaWholeFits
namespace Go.Proofs.Ytdddbljkhhbdlaa
open Go.RowKit

theorem six_at0 (w : World) : (Instr.index 182 (.agg #[.int .i64 0, .int .i64 0, .int .i64 0, .int .i64 0, .int .i64 0, .int .i64 0]) (.int .i64 0)).run Try.prog w = .ok (.int .i64 0) w := by kernel_rfl
theorem six_at1 (w : World) : (Instr.index 182 (.agg #[.int .i64 0, .int .i64 0, .int .i64 0, .int .i64 0, .int .i64 0, .int .i64 0]) (.int .i64 1)).run Try.prog w = .ok (.int .i64 0) w := by kernel_rfl
theorem six_at2 (w : World) : (Instr.index 182 (.agg #[.int .i64 0, .int .i64 0, .int .i64 0, .int .i64 0, .int .i64 0, .int .i64 0]) (.int .i64 2)).run Try.prog w = .ok (.int .i64 0) w := by kernel_rfl
theorem six_at3 (w : World) : (Instr.index 182 (.agg #[.int .i64 0, .int .i64 0, .int .i64 0, .int .i64 0, .int .i64 0, .int .i64 0]) (.int .i64 3)).run Try.prog w = .ok (.int .i64 0) w := by kernel_rfl
theorem six_at4 (w : World) : (Instr.index 182 (.agg #[.int .i64 0, .int .i64 0, .int .i64 0, .int .i64 0, .int .i64 0, .int .i64 0]) (.int .i64 4)).run Try.prog w = .ok (.int .i64 0) w := by kernel_rfl
theorem six_at5 (w : World) : (Instr.index 182 (.agg #[.int .i64 0, .int .i64 0, .int .i64 0, .int .i64 0, .int .i64 0, .int .i64 0]) (.int .i64 5)).run Try.prog w = .ok (.int .i64 0) w := by kernel_rfl
theorem six_at (k : Nat) (h : k < 6) (w : World) : (Instr.index 182 (.agg #[.int .i64 0, .int .i64 0, .int .i64 0, .int .i64 0, .int .i64 0, .int .i64 0]) (.int .i64 k)).run Try.prog w = .ok (.int .i64 0) w := by
  have h' : k = 0 ∨ k = 1 ∨ k = 2 ∨ k = 3 ∨ k = 4 ∨ k = 5 := by omega
  rcases h' with rfl | rfl | rfl | rfl | rfl | rfl
  · exact six_at0 w
  · exact six_at1 w
  · exact six_at2 w
  · exact six_at3 w
  · exact six_at4 w
  · exact six_at5 w

set_option maxRecDepth 100000 in
set_option maxHeartbeats 2000000 in
theorem chk32 (w : World) : Calls Try.prog 93 #[rule0, .int .i64 32] w fun e w' => e = .returned (.int .i64 0) ∧ Below w.heap.size w w' := by
  have hf := fun w => fits32 w
  unfold rule0 at hf ⊢
  go_enter Try.func93, Try.ntmps93
  go_wp2
  go_loop [34] (fun i => ∃ k : Nat, k ≤ 6 ∧ i = .int .i64 k) (fun i => 6 - (intOf i).toNat)
  case atStart => exact ⟨0, by omega, rfl⟩
  case round =>
    obtain ⟨k, hk, rfl⟩ := hrel
    by_cases hlt : k < 6
    · have h6 := six_at k hlt
      go_wp2_with (first | rw [h6] | (go_at_call 94; refine (zero_good _).mono ?_; rintro e w' ⟨rfl, rfl⟩))
      go_round
      case rel => exact ⟨k + 1, by omega, by go_num⟩
      case measure => simp [intOf]; omega
    · obtain rfl : k = 6 := by omega
      clear hlt
      go_wp2_with (go_at_call 136; refine (hf _).mono ?_; rintro e w' ⟨rfl, hb⟩)
      go_ret
      exact ⟨rfl, ((Below.refl _ w).alloc (Nat.le_refl _) _).trans (hb.mono (by simp))⟩
set_option maxRecDepth 100000 in
set_option maxHeartbeats 2000000 in
theorem chk64 (w : World) : Calls Try.prog 93 #[rule0, .int .i64 64] w fun e w' => e = .returned (.int .i64 0) ∧ Below w.heap.size w w' := by
  have hf := fun w => fits64 w
  unfold rule0 at hf ⊢
  go_enter Try.func93, Try.ntmps93
  go_wp2
  go_loop [34] (fun i => ∃ k : Nat, k ≤ 6 ∧ i = .int .i64 k) (fun i => 6 - (intOf i).toNat)
  case atStart => exact ⟨0, by omega, rfl⟩
  case round =>
    obtain ⟨k, hk, rfl⟩ := hrel
    by_cases hlt : k < 6
    · have h6 := six_at k hlt
      go_wp2_with (first | rw [h6] | (go_at_call 94; refine (zero_good _).mono ?_; rintro e w' ⟨rfl, rfl⟩))
      go_round
      case rel => exact ⟨k + 1, by omega, by go_num⟩
      case measure => simp [intOf]; omega
    · obtain rfl : k = 6 := by omega
      clear hlt
      go_wp2_with (go_at_call 137; refine (hf _).mono ?_; rintro e w' ⟨rfl, hb⟩)
      go_ret
      exact ⟨rfl, ((Below.refl _ w).alloc (Nat.le_refl _) _).trans (hb.mono (by simp))⟩
end Go.Proofs.Ytdddbljkhhbdlaa
