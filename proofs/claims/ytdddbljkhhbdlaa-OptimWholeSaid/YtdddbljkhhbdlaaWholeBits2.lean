/-
bits.wide and bits.ToInt at small whole numbers; what is greater than all of them.
-/
import Derived.Test.YtdddbljkhhbdlaaWholeBits
namespace Go.Proofs.Ytdddbljkhhbdlaa
open Go.RowKit

/-- A closed float that is greater in size than all small whole numbers. -/
theorem order_big (k : FloatKind) (n : Int) (h : SmallN n) (c : Nat) (sg : Bool) (m p : Nat) (hc : k.decode c = .number sg m p) (hm : 16777216 ≤ m) :
    k.format.order (floatOfInt k n) c = some (if sg then .gt else .lt) := by
  obtain ⟨T, _, h1⟩ := read_int k n h
  show (k.decode (floatOfInt k n)).order (k.decode c) = _
  rw [h1, hc]
  have hb : min (-(T : Int)) (p : Int) = -(T : Int) := by omega
  simp only [Ieee.Datum.order, hb]
  have e1 : (-(T : Int) - -(T : Int)).toNat = T - T := by omega
  have e2 : ((p : Int) - -(T : Int)).toNat = p + T := by omega
  rw [e1, e2, signed_val n T T (Nat.le_refl _)]
  have hpos : (0 : Int) < 2 ^ T := Int.pow_pos (by decide)
  have hn : n.natAbs < 16777216 := h
  have hbig : n.natAbs * 2 ^ T < m <<< (p + T) := by
    rw [Nat.shiftLeft_eq, Nat.pow_add, ← Nat.mul_assoc]
    refine Nat.mul_lt_mul_of_pos_right ?_ (Nat.two_pow_pos _)
    exact Nat.lt_of_lt_of_le (Nat.lt_of_lt_of_le hn hm) (Nat.le_mul_of_pos_right _ (Nat.two_pow_pos _))
  have hab : (n * 2 ^ T).natAbs = n.natAbs * 2 ^ T := by rw [Int.natAbs_mul, Int.natAbs_pow]; rfl
  congr 1
  cases sg
  · simp only [Ieee.signed, Bool.false_eq_true, if_false]
    refine Int.compare_eq_lt.2 ?_
    omega
  · simp only [Ieee.signed, if_true]
    refine Int.compare_eq_gt.2 ?_
    omega

theorem word64 (n : Int) : floatOfInt .f64 n < 18446744073709551616 := FloatKind.f64.format.nearest_lt (decide (n < 0)) n.natAbs 0
theorem word32 (n : Int) : floatOfInt .f32 n < 4294967296 := FloatKind.f32.format.nearest_lt (decide (n < 0)) n.natAbs 0

theorem back64 (x : Nat) (h : x < 18446744073709551616) : (IntKind.u64.wrap (wrap64 x)).toNat = x := by
  simp only [IntKind.wrap, wrap64, IntKind.signed, IntKind.bits]
  simp
  omega
theorem back32 (x : Nat) (h : x < 4294967296) : wrap64 x = x := by
  simp only [wrap64]
  omega

set_option maxRecDepth 100000 in
set_option maxHeartbeats 1000000 in
theorem wide_any (n wd : Int) (h : SmallN n) (hw : wd = 32 ∨ wd = 64) (w : World) :
    Calls Try.prog 102 #[.int .i64 (patI wd n), .int .i64 wd] w fun e w' => e = .returned (.tuple #[.float .f64 (floatOfInt .f64 n), .bool true]) ∧ w' = w := by
  rcases hw with rfl | rfl
  · rw [patI32, back32 _ (word32 n)]
    have hx := word32 n
    have hcv := widen_int n h
    generalize floatOfInt .f64 n = y at hcv ⊢
    generalize floatOfInt .f32 n = x at hx hcv ⊢
    have hc : ∀ w, (convert 128 131 (.float .f32 x)).run Try.prog w = .ok (.float .f64 y) w := fun w => run_convert_float_float w 128 131 .f32 .f64 x y (by rw [Try.underlying128]; rfl) Try.underlying131 hcv
    go_enter Try.func102, Try.ntmps102
    go_wp2_with fail
    refine (float32_bits (x : Int) (by omega) (by omega) _).mono ?_
    rintro e w' ⟨rfl, rfl⟩
    rw [Int.toNat_natCast]
    go_wp2_with fail
    go_ret2
    exact ⟨rfl, rfl⟩
  · rw [patI64]
    have hx := back64 _ (word64 n)
    generalize floatOfInt .f64 n = x at hx ⊢
    go_enter Try.func102, Try.ntmps102
    go_wp2_with fail
    refine (float_bits _ _).mono ?_
    rintro e w' ⟨rfl, rfl⟩
    rw [hx]
    go_wp2_with fail
    go_ret2
    exact ⟨rfl, rfl⟩

set_option maxRecDepth 100000 in
set_option maxHeartbeats 1000000 in
theorem toInt_any (n wd : Int) (h : SmallN n) (hw : wd = 32 ∨ wd = 64) (w : World) :
    Calls Try.prog 41 #[.int .i64 (patI wd n), .int .i64 wd] w fun e w' => e = .returned (.tuple #[.int .i64 n, .bool true]) ∧ w' = w := by
  have h1 := order_big .f64 n h 14114281232179134464 true 4503599627370496 11 (by decide +kernel) (by decide)
  have h2 := order_big .f64 n h 4890909195324358656 false 4503599627370496 11 (by decide +kernel) (by decide)
  have hr := fun w => run_round n h w
  have hcv := toInt_int n h
  have hwd := fun w => wide_any n wd h hw w
  generalize floatOfInt .f64 n = x at h1 h2 hr hcv hwd
  generalize patI wd n = b at hwd ⊢
  have hge : (FloatKind.f64.format.order x 14114281232179134464 == some .gt || FloatKind.f64.format.order x 14114281232179134464 == some .eq) = true := by rw [h1]; rfl
  have hlt : (FloatKind.f64.format.order x 4890909195324358656 == some .lt) = true := by rw [h2]; rfl
  have hc : ∀ w, (convert 131 3 (.float .f64 x)).run Try.prog w = .ok (.int .i64 n) w := fun w => run_convert_float_int w 131 3 .f64 .i64 x n (by rw [Try.underlying131]; rfl) Try.underlying3 hcv
  clear h1 h2
  go_enter Try.func41, Try.ntmps41
  go_wp2_with fail
  refine (hwd _).mono ?_
  rintro e w' ⟨rfl, rfl⟩
  go_wp2_with (first | rw [hr] | rw [hc])
  go_ret2
  exact ⟨rfl, rfl⟩
end Go.Proofs.Ytdddbljkhhbdlaa
