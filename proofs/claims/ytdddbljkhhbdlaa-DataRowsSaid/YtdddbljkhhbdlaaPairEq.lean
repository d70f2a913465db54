/-
Two pairs of numbers are compared number by number.
-/
import Derived.Test.YtdddbljkhhbdlaaProg
import Derived.Test.YtdddbljkhhbdlaaMath
import Derived.ChangeKeysEq
namespace Go.Proofs.Ytdddbljkhhbdlaa
open Go.RowKit

theorem run_part3_0 (x y : Int) (w : World) : (part 3 #[.int .i64 x, .int .i64 y] 0).run Try.prog w = .ok (.int .i64 x) w := by kernel_rfl
theorem run_part3_1 (x y : Int) (w : World) : (part 3 #[.int .i64 x, .int .i64 y] 1).run Try.prog w = .ok (.int .i64 y) w := by kernel_rfl
theorem run_sizeOf3 (w : World) : (sizeOf 3).run Try.prog w = .ok 1 w := by kernel_rfl

theorem run_equalIn_pair_d (n : Nat) (a b c d : Int) (w : World) : (Op.equalIn (n + 2) 29 (.agg #[.int .i64 a, .int .i64 b]) (.agg #[.int .i64 c, .int .i64 d])).run Try.prog w = .ok (a == c && b == d) w := by
  have hu : Try.prog.underlying 29 = some (.array 2 3) := Try.underlying29
  have h3 : ∀ x y : Int, (Op.equalIn (n + 1) 3 (.int .i64 x) (.int .i64 y)).run Try.prog w = .ok (x == y) w := fun x y => run_equalIn_int w n 3 .i64 .i64 x y Try.underlying3
  rw [Op.equalIn]
  simp only [Sem.run_bind, run_underlying hu, Result.andThen_ok, run_sizeOf3, Std.Legacy.Range.forIn_eq_forIn_range', Std.Legacy.Range.size]
  have e : (List.range' 0 ((2 - 0 + 1 - 1) / 1) 1) = [0, 1] := by decide
  rw [e]
  simp only [List.forIn_cons, List.forIn_nil, Sem.run_bind, Nat.zero_mul, Nat.one_mul, run_part3_0, Result.andThen_ok, h3, Sem.run_ite, Sem.run_pure]
  cases h1 : (a == c) <;> cases h2 : (b == d) <;> simp [run_part3_1, h3, h2]

@[go_sem] theorem run_equalIn_pair (a b c d : Int) (w : World) : (Op.equalIn 10000 29 (.agg #[.int .i64 a, .int .i64 b]) (.agg #[.int .i64 c, .int .i64 d])).run Try.prog w = .ok (a == c && b == d) w := run_equalIn_pair_d 9998 a b c d w
end Go.Proofs.Ytdddbljkhhbdlaa
