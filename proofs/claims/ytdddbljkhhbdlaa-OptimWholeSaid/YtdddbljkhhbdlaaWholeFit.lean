/-
optim's small functions: infinite, narrow, good, at the floats that OptimWhole reaches.
-/
import Derived.Test.YtdddbljkhhbdlaaWholeInf
namespace Go.Proofs.Ytdddbljkhhbdlaa
open Go.RowKit

set_option maxRecDepth 100000 in
set_option maxHeartbeats 1000000 in
theorem infinite64 (n : Int) (h : SmallN n) (w : World) : Calls Try.prog 163 #[.float .f64 (floatOfInt .f64 n)] w fun e w' => e = .returned (.bool false) ∧ w' = w := by
  have hi := fun w => isInf_int n h w
  have hcv : floatToFloatBits .f64 (floatOfInt .f64 n) .f64 = some (floatOfInt .f64 n) := if_pos rfl
  generalize floatOfInt .f64 n = x at hi hcv ⊢
  have hc : ∀ w, (convert 131 131 (.float .f64 x)).run Try.prog w = .ok (.float .f64 x) w := fun w => run_convert_float_float w 131 131 .f64 .f64 x x (by rw [Try.underlying131]; rfl) Try.underlying131 hcv
  go_enter Try.func163, Try.ntmps163
  go_wp2_with (first | rw [hc])
  refine (hi _).mono ?_
  rintro e w' ⟨rfl, rfl⟩
  go_wp2_with fail
  go_ret
  exact ⟨rfl, rfl⟩

set_option maxRecDepth 100000 in
set_option maxHeartbeats 1000000 in
theorem infinite32 (n : Int) (h : SmallN n) (w : World) : Calls Try.prog 95 #[.float .f32 (floatOfInt .f32 n)] w fun e w' => e = .returned (.bool false) ∧ w' = w := by
  have hi := fun w => isInf_int n h w
  have hcv := widen_int n h
  generalize floatOfInt .f64 n = x at hi hcv
  generalize floatOfInt .f32 n = y at hcv ⊢
  have hc : ∀ w, (convert 128 131 (.float .f32 y)).run Try.prog w = .ok (.float .f64 x) w := fun w => run_convert_float_float w 128 131 .f32 .f64 y x (by rw [Try.underlying128]; rfl) Try.underlying131 hcv
  go_enter Try.func95, Try.ntmps95
  go_wp2_with (first | rw [hc])
  refine (hi _).mono ?_
  rintro e w' ⟨rfl, rfl⟩
  go_wp2_with fail
  go_ret
  exact ⟨rfl, rfl⟩

set_option maxRecDepth 100000 in
set_option maxHeartbeats 1000000 in
theorem narrow32 (b : Int) (x y z : Nat) (hx : (IntKind.u64.wrap b).toNat = x) (hy : floatToFloatBits .f64 x .f32 = some y) (hz : floatBits .add .f32 y 0 = some z) (w : World) :
    Calls Try.prog 96 #[.int .i64 b] w fun e w' => e = .returned (.float .f32 z) ∧ w' = w := by
  have hc : ∀ w, (convert 131 128 (.float .f64 x)).run Try.prog w = .ok (.float .f32 y) w := fun w => run_convert_float_float w 131 128 .f64 .f32 x y (by rw [Try.underlying131]; rfl) Try.underlying128 hy
  have ha : ∀ t w, (binOp .add t (.float .f32 y) (.float .f32 0)).run Try.prog w = .ok (.float .f32 z) w := fun t w => run_float_arith w .add t .f32 y 0 z hz
  have hr : ∀ w, (callFunc 138 #[.int .u64 (IntKind.u64.wrap b)]).run Try.prog w = .ok (.value (.float .f64 x)) w := fun w => by rw [run_from64, hx]
  clear hx hy hz
  go_enter Try.func96, Try.ntmps96
  go_wp2_with (first | rw [hr] | rw [hc] | rw [ha])
  go_ret
  exact ⟨rfl, rfl⟩

set_option maxRecDepth 100000 in
set_option maxHeartbeats 1000000 in
theorem narrow64 (b : Int) (x z : Nat) (hx : (IntKind.u64.wrap b).toNat = x) (hz : floatBits .add .f64 x 0 = some z) (w : World) :
    Calls Try.prog 173 #[.int .i64 b] w fun e w' => e = .returned (.float .f64 z) ∧ w' = w := by
  have hc : ∀ w, (convert 131 131 (.float .f64 x)).run Try.prog w = .ok (.float .f64 x) w := fun w => run_convert_float_float w 131 131 .f64 .f64 x x (by rw [Try.underlying131]; rfl) Try.underlying131 (if_pos rfl)
  have ha : ∀ t w, (binOp .add t (.float .f64 x) (.float .f64 0)).run Try.prog w = .ok (.float .f64 z) w := fun t w => run_float_arith w .add t .f64 x 0 z hz
  have hr : ∀ w, (callFunc 138 #[.int .u64 (IntKind.u64.wrap b)]).run Try.prog w = .ok (.value (.float .f64 x)) w := fun w => by rw [run_from64, hx]
  clear hx hz
  go_enter Try.func173, Try.ntmps173
  go_wp2_with (first | rw [hr] | rw [hc] | rw [ha])
  go_ret
  exact ⟨rfl, rfl⟩

set_option maxRecDepth 100000 in
set_option maxHeartbeats 1000000 in
theorem good_of (b : Int) (x : Nat) (hx : (IntKind.u64.wrap b).toNat = x) (h64 : x < 18446744073709551616) (hge : (FloatKind.f64.format.order x 0 == some .gt || FloatKind.f64.format.order x 0 == some .eq) = true)
    (hin : (FloatKind.f64.format.order (x % 9223372036854775808) 9218868437227405311 == some .gt) = false) (w : World) :
    Calls Try.prog 94 #[.int .i64 b] w fun e w' => e = .returned (.bool true) ∧ w' = w := by
  have hi := fun w => isInf_any x h64 hin w
  have hr : ∀ w, (callFunc 138 #[.int .u64 (IntKind.u64.wrap b)]).run Try.prog w = .ok (.value (.float .f64 x)) w := fun w => by rw [run_from64, hx]
  clear hx hin
  go_enter Try.func94, Try.ntmps94
  go_wp2_with (first | rw [hr])
  refine (hi _).mono ?_
  rintro e w' ⟨rfl, rfl⟩
  go_wp2_with fail
  go_ret
  exact ⟨rfl, rfl⟩

/-- The rate, as OptimWhole gives it. -/
def rateI (s : Nat) : Int := (1023 - (s : Int)) * 4503599627370496
theorem nine {s : Nat} (h : s ≤ 8) : s = 0 ∨ s = 1 ∨ s = 2 ∨ s = 3 ∨ s = 4 ∨ s = 5 ∨ s = 6 ∨ s = 7 ∨ s = 8 := by omega
theorem rate_word (s : Nat) (h : s ≤ 8) : (IntKind.u64.wrap (rateI s)).toNat = rateW .f64 s := by
  rcases nine h with rfl | rfl | rfl | rfl | rfl | rfl | rfl | rfl | rfl <;> decide +kernel
theorem rate_narrow (s : Nat) (h : s ≤ 8) : floatToFloatBits .f64 (rateW .f64 s) .f32 = some (rateW .f32 s) := by
  rcases nine h with rfl | rfl | rfl | rfl | rfl | rfl | rfl | rfl | rfl <;> decide +kernel
theorem rate_add (k : FloatKind) (s : Nat) (h : s ≤ 8) : floatBits .add k (rateW k s) 0 = some (rateW k s) := by
  rcases nine h with rfl | rfl | rfl | rfl | rfl | rfl | rfl | rfl | rfl <;> cases k <;> decide +kernel
theorem rate_good (s : Nat) (h : s ≤ 8) (w : World) : Calls Try.prog 94 #[.int .i64 (rateI s)] w fun e w' => e = .returned (.bool true) ∧ w' = w := by
  refine good_of _ _ (rate_word s h) ?_ ?_ ?_ w
  · rcases nine h with rfl | rfl | rfl | rfl | rfl | rfl | rfl | rfl | rfl <;> decide +kernel
  · rcases nine h with rfl | rfl | rfl | rfl | rfl | rfl | rfl | rfl | rfl <;> decide +kernel
  · rcases nine h with rfl | rfl | rfl | rfl | rfl | rfl | rfl | rfl | rfl <;> decide +kernel
theorem zero_good (w : World) : Calls Try.prog 94 #[.int .i64 0] w fun e w' => e = .returned (.bool true) ∧ w' = w :=
  good_of 0 0 (by decide +kernel) (by decide) (by decide +kernel) (by decide +kernel) w
theorem rate_narrow64 (s : Nat) (h : s ≤ 8) (w : World) : Calls Try.prog 173 #[.int .i64 (rateI s)] w fun e w' => e = .returned (.float .f64 (rateW .f64 s)) ∧ w' = w :=
  narrow64 _ _ _ (rate_word s h) (rate_add .f64 s h) w
theorem rate_narrow32 (s : Nat) (h : s ≤ 8) (w : World) : Calls Try.prog 96 #[.int .i64 (rateI s)] w fun e w' => e = .returned (.float .f32 (rateW .f32 s)) ∧ w' = w :=
  narrow32 _ _ _ _ (rate_word s h) (rate_narrow s h) (rate_add .f32 s h) w
theorem zero_narrow64 (w : World) : Calls Try.prog 173 #[.int .i64 0] w fun e w' => e = .returned (.float .f64 0) ∧ w' = w :=
  narrow64 0 0 0 (by decide +kernel) (by decide +kernel) w
theorem zero_narrow32 (w : World) : Calls Try.prog 96 #[.int .i64 0] w fun e w' => e = .returned (.float .f32 0) ∧ w' = w :=
  narrow32 0 0 0 0 (by decide +kernel) (by decide +kernel) (by decide +kernel) w
end Go.Proofs.Ytdddbljkhhbdlaa
