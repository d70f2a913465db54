/-
optim.fits at the rule whose numbers are all 0.
-/
import Derived.Test.YtdddbljkhhbdlaaWholeOf
namespace Go.Proofs.Ytdddbljkhhbdlaa
open Go.RowKit
attribute [local go_sem] run_store_float

theorem small0 : SmallN 0 := by unfold SmallN; decide
theorem lt32 : FloatKind.f32.format.order 0 1065353216 = some .lt := by decide +kernel
theorem lt64 : FloatKind.f64.format.order 0 4607182418800017408 = some .lt := by decide +kernel
theorem inf0_32 (w : World) : Calls Try.prog 95 #[.float .f32 0] w fun e w' => e = .returned (.bool false) ∧ w' = w := by
  have h := infinite32 0 small0 w
  rw [zero_word] at h
  exact h

set_option maxRecDepth 100000 in
set_option maxHeartbeats 2000000 in
theorem fits32 (w : World) : Calls Try.prog 136 #[rule0] w fun e w' => e = .returned (.bool true) ∧ Below w.heap.size w w' := by
  have ho := fun w => of32 0 0 (zero_narrow32) w
  unfold rule0 at ho ⊢
  go_enter Try.func136, Try.ntmps136
  go_wp2_with fail
  refine (ho _).mono ?_
  rintro e w1 ⟨rfl, hb⟩
  have c0 := hb.cell (p := ⟨w.heap.size, 0, none⟩) (by simp)
  simp at c0
  have hz : w.heap.size < w1.heap.size := by have := hb.size; simp at this; omega
  have hl := lt32
  go_wp2_with (go_at_call 95; refine (inf0_32 _).mono ?_; rintro e w' ⟨rfl, rfl⟩)
  go_ret
  exact ⟨rfl, (((Below.refl _ w).alloc (Nat.le_refl _) _).trans (hb.mono (by simp))).alloc (by omega) _⟩
theorem inf0_64 (w : World) : Calls Try.prog 163 #[.float .f64 0] w fun e w' => e = .returned (.bool false) ∧ w' = w := by
  have h := infinite64 0 small0 w
  rw [zero_word] at h
  exact h

set_option maxRecDepth 100000 in
set_option maxHeartbeats 2000000 in
theorem fits64 (w : World) : Calls Try.prog 137 #[rule0] w fun e w' => e = .returned (.bool true) ∧ Below w.heap.size w w' := by
  have ho := fun w => of64 0 0 (zero_narrow64) w
  unfold rule0 at ho ⊢
  go_enter Try.func137, Try.ntmps137
  go_wp2_with fail
  refine (ho _).mono ?_
  rintro e w1 ⟨rfl, hb⟩
  have c0 := hb.cell (p := ⟨w.heap.size, 0, none⟩) (by simp)
  simp at c0
  have hz : w.heap.size < w1.heap.size := by have := hb.size; simp at this; omega
  have hl := lt64
  go_wp2_with (go_at_call 163; refine (inf0_64 _).mono ?_; rintro e w' ⟨rfl, rfl⟩)
  go_ret
  exact ⟨rfl, (((Below.refl _ w).alloc (Nat.le_refl _) _).trans (hb.mono (by simp))).alloc (by omega) _⟩
end Go.Proofs.Ytdddbljkhhbdlaa
