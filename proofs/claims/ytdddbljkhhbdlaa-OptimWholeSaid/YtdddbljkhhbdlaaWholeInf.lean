/-
math.Abs, math.IsInf at small whole numbers.
-/
import Derived.Test.YtdddbljkhhbdlaaWholeBits2
import Derived.Laws.BitsAllLaws
namespace Go.Proofs.Ytdddbljkhhbdlaa
open Go.RowKit

theorem clear_sign (x : Nat) (h : x < 18446744073709551616) : (bits .andNot .u64 (x : Int) 9223372036854775808).toNat = x % 9223372036854775808 := by
  have := u64_andNot_nat x 9223372036854775808 h (by decide)
  rw [show ((9223372036854775808 : Nat) : Int) = 9223372036854775808 from rfl] at this
  rw [this, Int.toNat_natCast]
  have e : 18446744073709551615 - 9223372036854775808 = 2 ^ 63 - 1 := by decide
  rw [e, Nat.and_two_pow_sub_one_eq_mod]

set_option maxRecDepth 100000 in
set_option maxHeartbeats 1000000 in
theorem abs_any (x : Nat) (h : x < 18446744073709551616) (w : World) :
    Calls Try.prog 164 #[.float .f64 x] w fun e w' => e = .returned (.float .f64 (x % 9223372036854775808)) ∧ w' = w := by
  rw [← clear_sign x h]
  go_enter Try.func164, Try.ntmps164
  go_wp2_with (first | rw [run_bits64] | rw [run_from64])
  go_ret
  exact ⟨rfl, rfl⟩

set_option maxRecDepth 100000 in
set_option maxHeartbeats 1000000 in
theorem isInf_any (x : Nat) (h : x < 18446744073709551616) (ho : (FloatKind.f64.format.order (x % 9223372036854775808) 9218868437227405311 == some .gt) = false) (w : World) :
    Calls Try.prog 139 #[.float .f64 x, .int .i64 0] w fun e w' => e = .returned (.bool false) ∧ w' = w := by
  have ha := fun w => abs_any x h w
  generalize x % 9223372036854775808 = y at ha ho
  go_enter Try.func139, Try.ntmps139
  go_wp2_with fail
  refine (ha _).mono ?_
  rintro e w' ⟨rfl, rfl⟩
  go_wp2_with fail
  go_ret
  exact ⟨rfl, rfl⟩

theorem nearest_sign (f : Ieee.Format) (neg : Bool) (m : Nat) (e : Int) : f.nearest neg m e % f.signWeight = f.nearest false m e := by
  have hlt := f.infRung_lt
  have key : ∀ r, r ≤ f.infRung → f.word neg r % f.signWeight = f.word false r := by
    intro r hr
    unfold Ieee.Format.word
    cases neg
    · simp only [Bool.false_eq_true, if_false]
      exact Nat.mod_eq_of_lt (by omega)
    · simp only [if_true, Bool.false_eq_true, if_false]
      rw [Nat.add_mod_left]
      exact Nat.mod_eq_of_lt (by omega)
  unfold Ieee.Format.nearest
  by_cases h0 : m = 0
  · rw [if_pos h0, if_pos h0]
    exact key 0 (Nat.zero_le _)
  · rw [if_neg h0, if_neg h0]
    have hc : ∀ n d, Ieee.Toward.even.cut neg n d = Ieee.Toward.even.cut false n d := fun n d => rfl
    simp only [hc]
    exact key _ (Nat.min_le_right ..)

theorem abs_word (n : Int) : floatOfInt .f64 n % 9223372036854775808 = floatOfInt .f64 (n.natAbs : Int) := by
  have h := nearest_sign FloatKind.f64.format (decide (n < 0)) n.natAbs 0
  rw [ofInt_eq, ofInt_eq]
  have e : FloatKind.f64.format.signWeight = 9223372036854775808 := by decide +kernel
  rw [e] at h
  rw [h, Int.natAbs_natCast, decide_eq_false (by omega)]

theorem isInf_int (n : Int) (h : SmallN n) (w : World) : Calls Try.prog 139 #[.float .f64 (floatOfInt .f64 n), .int .i64 0] w fun e w' => e = .returned (.bool false) ∧ w' = w := by
  refine isInf_any _ (word64 n) ?_ w
  rw [abs_word, order_big .f64 (n.natAbs : Int) (by unfold SmallN at h ⊢; simpa using h) 9218868437227405311 false 9007199254740991 971 (by decide +kernel) (by decide)]
  rfl
end Go.Proofs.Ytdddbljkhhbdlaa
