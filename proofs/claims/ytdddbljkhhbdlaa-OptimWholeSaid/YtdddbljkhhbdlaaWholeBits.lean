/-
The float's bits: bits.Of and its kin at small whole numbers.
-/
import Derived.Test.YtdddbljkhhbdlaaMath
import Derived.Test.YtdddbljkhhbdlaaProg
import Derived.Test.YtdddbljkhhbdlaaClass
import Derived.Test.YtdddbljkhhbdlaaWholeMath
import Derived.StillTailTactics
import Derived.Lib.Hide
namespace Go.Proofs.Ytdddbljkhhbdlaa
open Go.RowKit

theorem run_bits64 (x : Nat) (w : World) : (callFunc 155 #[.float .f64 x]).run Try.prog w = .ok (.value (.int .u64 x)) w := by
  rw [run_callFunc_extern Try.func155 (by kernel_rfl) (by kernel_rfl) (by kernel_rfl) (e := Extern.MathFloatBits.float64bits) (by kernel_rfl)]
  rfl
theorem run_bits32 (x : Nat) (w : World) : (callFunc 156 #[.float .f32 x]).run Try.prog w = .ok (.value (.int .u32 x)) w := by
  rw [run_callFunc_extern Try.func156 (by kernel_rfl) (by kernel_rfl) (by kernel_rfl) (e := Extern.MathFloatBits.float32bits) (by kernel_rfl)]
  rfl
theorem run_from64 (x : Int) (w : World) : (callFunc 138 #[.int .u64 x]).run Try.prog w = .ok (.value (.float .f64 x.toNat)) w := by
  rw [run_callFunc_extern Try.func138 (by kernel_rfl) (by kernel_rfl) (by kernel_rfl) (e := Extern.MathFloatBits.float64frombits) (by kernel_rfl)]
  rfl
theorem run_from32 (x : Int) (w : World) : (callFunc 166 #[.int .u32 x]).run Try.prog w = .ok (.value (.float .f32 x.toNat)) w := by
  rw [run_callFunc_extern Try.func166 (by kernel_rfl) (by kernel_rfl) (by kernel_rfl) (e := Extern.MathFloatBits.float32frombits) (by kernel_rfl)]
  rfl
theorem toIntegral_int (nm : String) (n : Int) (h : SmallN n) : Extern.MathFloor.toIntegral nm .even #[.float .f64 (floatOfInt .f64 n)] = pure (.float .f64 (floatOfInt .f64 n)) := by
  obtain ⟨T, _, h1⟩ := read_int .f64 n h
  have h2 := round_int n h
  rw [h1] at h2
  generalize floatOfInt .f64 n = x at h1 h2 ⊢
  show Extern.MathFloor.toIntegral.match_1 (motive := fun _ => Sem Value) (FloatKind.f64.decode x) _ _ = _
  rw [h1]
  show pure (Value.float .f64 (FloatKind.f64.encode _)) = _
  rw [h2]
theorem run_round (n : Int) (h : SmallN n) (w : World) : (callFunc 110 #[.float .f64 (floatOfInt .f64 n)]).run Try.prog w = .ok (.value (.float .f64 (floatOfInt .f64 n))) w := by
  rw [run_callFunc_extern Try.func110 (by kernel_rfl) (by kernel_rfl) (by kernel_rfl) (e := Extern.MathFloor.toIntegral "math.RoundToEven" .even) (by kernel_rfl), toIntegral_int _ n h]
  rfl

set_option maxRecDepth 100000 in
set_option maxHeartbeats 1000000 in
theorem of_bits (x : Nat) (w : World) (hx : (FloatKind.f64.format.order x x != some .eq) = false) :
    Calls Try.prog 103 #[.float .f64 x] w fun e w' => e = .returned (.int .i64 (wrap64 x)) ∧ w' = w := by
  go_enter Try.func103, Try.ntmps103
  go_wp2_with (simp only [run_bits64])
  go_ret
  exact ⟨rfl, rfl⟩

set_option maxRecDepth 100000 in
set_option maxHeartbeats 1000000 in
theorem of_bits32 (x : Nat) (w : World) (hx : (FloatKind.f32.format.order x x != some .eq) = false) :
    Calls Try.prog 104 #[.float .f32 x] w fun e w' => e = .returned (.int .i64 (wrap64 x)) ∧ w' = w := by
  go_enter Try.func104, Try.ntmps104
  go_wp2_with (simp only [run_bits32])
  go_ret
  exact ⟨rfl, rfl⟩

/-- The pattern of a small whole number, as FromInt gives it. -/
def patI (wd n : Int) : Int := if wd = 64 then wrap64 (floatOfInt .f64 n) else wrap64 (floatOfInt .f32 n)
theorem patI32 (n : Int) : patI 32 n = wrap64 (floatOfInt .f32 n) := if_neg (by decide)
theorem patI64 (n : Int) : patI 64 n = wrap64 (floatOfInt .f64 n) := if_pos rfl

set_option maxRecDepth 100000 in
set_option maxHeartbeats 1000000 in
theorem fromInt_any (n wd : Int) (h : SmallN n) (hw : wd = 32 ∨ wd = 64) (w : World) :
    Calls Try.prog 40 #[.int .i64 n, .int .i64 wd] w fun e w' => e = .returned (.int .i64 (patI wd n)) ∧ w' = w := by
  rcases hw with rfl | rfl
  · rw [patI32]
    go_enter Try.func40, Try.ntmps40
    go_wp2_with fail
    refine (of_bits32 _ _ (order_self .f32 n h)).mono ?_
    rintro e w' ⟨rfl, rfl⟩
    go_wp2_with fail
    go_ret
    exact ⟨rfl, rfl⟩
  · rw [patI64]
    go_enter Try.func40, Try.ntmps40
    go_wp2_with fail
    refine (of_bits _ _ (order_self .f64 n h)).mono ?_
    rintro e w' ⟨rfl, rfl⟩
    go_wp2_with fail
    go_ret
    exact ⟨rfl, rfl⟩

set_option maxRecDepth 100000 in
set_option maxHeartbeats 1000000 in
theorem float_bits (b : Int) (w : World) :
    Calls Try.prog 153 #[.int .i64 b] w fun e w' => e = .returned (.float .f64 (IntKind.u64.wrap b).toNat) ∧ w' = w := by
  go_enter Try.func153, Try.ntmps153
  go_wp2_with (simp only [run_from64])
  go_ret
  exact ⟨rfl, rfl⟩

set_option maxRecDepth 100000 in
set_option maxHeartbeats 1000000 in
theorem float32_bits (b : Int) (h0 : 0 ≤ b) (h1 : b ≤ 4294967295) (w : World) :
    Calls Try.prog 154 #[.int .i64 b] w fun e w' => e = .returned (.float .f32 b.toNat) ∧ w' = w := by
  go_enter Try.func154, Try.ntmps154
  go_wp2_with fail
  refine (valid_any b 32 (.inr ⟨rfl, h0, h1⟩) _).mono ?_
  rintro e w' ⟨rfl, rfl⟩
  go_wp2_with (simp only [run_from32])
  go_ret
  exact ⟨rfl, rfl⟩
end Go.Proofs.Ytdddbljkhhbdlaa
