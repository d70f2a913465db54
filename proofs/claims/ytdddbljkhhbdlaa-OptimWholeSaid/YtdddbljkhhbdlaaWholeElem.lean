/-
What the small functions answer at one element: read, the rule, looked at, written.
-/
import Derived.Test.YtdddbljkhhbdlaaWholeOut
namespace Go.Proofs.Ytdddbljkhhbdlaa
open Go.RowKit

def ElemOk32 (rr : Nat) (px pg pd : Int) (fx fg fd : Nat) : Prop :=
  (∀ w, Calls Try.prog 142 #[.int .i64 px, .int .i64 32] w fun e w' => e = .returned (.float .f32 fx) ∧ w' = w) ∧
  (∀ w, Calls Try.prog 142 #[.int .i64 pg, .int .i64 32] w fun e w' => e = .returned (.float .f32 fg) ∧ w' = w) ∧
  (∀ w, Calls Try.prog 167 #[.agg #[.float .f32 fx, .float .f32 fg, .float .f32 0, .float .f32 0], .agg #[.float .f32 rr, .float .f32 0, .float .f32 0, .float .f32 0, .float .f32 0, .float .f32 0], .agg #[.float .f32 0, .float .f32 0]] w
      fun e w' => e = .returned (.agg #[.float .f32 fd, .float .f32 fg, .float .f32 0, .float .f32 0]) ∧ Below w.heap.size w w') ∧
  (∀ w g c, w.cell? ⟨g, 0, none⟩ = some (.float .f32 0) → w.cell? ⟨g, 1, none⟩ = some (.float .f32 0) → w.cell? ⟨g, 2, none⟩ = some (.float .f32 fd) → Calls Try.prog 145 #[.slice (some ⟨g, 0, none⟩) 3 c] w fun e w' => e = .returned (.int .i64 0) ∧ w' = w) ∧
  (∀ w, Calls Try.prog 143 #[.float .f32 fd, .int .i64 32] w fun e w' => e = .returned (.int .i64 pd) ∧ w' = w)

theorem elem32 (s : Nat) (hs : s ≤ 8) (x g : Int) (hx : SmallN x) (hg : SmallN (g * 2 ^ s)) (hd : SmallN (x - g)) :
    ∃ fx fg fd, ElemOk32 (rateW .f32 s) (patI 32 x) (patI 32 (g * 2 ^ s)) (patI 32 (x - g)) fx fg fd := by
  have hg' : SmallN g := by
    unfold SmallN at hg ⊢
    rw [Int.natAbs_mul, Int.natAbs_pow] at hg
    exact Nat.lt_of_le_of_lt (Nat.le_mul_of_pos_right _ (Nat.pow_pos (by decide))) hg
  refine ⟨floatOfInt .f32 x, floatOfInt .f32 (g * 2 ^ s), floatOfInt .f32 (x - g), fun w => read32 _ w, fun w => read32 _ w, fun w => plain32 _ _ _ _ _ w (mul_ok .f32 s hs g hg) (sub_ok .f32 x g hx hg' hd), fun w q c h0 h1 h2 => ?_, fun w => pat32 _ w⟩
  refine fin32 q c [0, 0, x - g] ?_ w ?_
  · intro j hj
    have h' : j = 0 ∨ j = 1 ∨ j = 2 := by omega
    rcases h' with rfl | rfl | rfl
    · exact small0
    · exact small0
    · exact hd
  · intro j hj
    have h' : j = 0 ∨ j = 1 ∨ j = 2 := by omega
    rcases h' with rfl | rfl | rfl
    · show _ = some (Value.float .f32 (floatOfInt .f32 0)); rw [zero_word]; exact h0
    · show _ = some (Value.float .f32 (floatOfInt .f32 0)); rw [zero_word]; exact h1
    · exact h2

def ElemOk64 (rr : Nat) (px pg pd : Int) (fx fg fd : Nat) : Prop :=
  (∀ w, Calls Try.prog 147 #[.int .i64 px, .int .i64 64] w fun e w' => e = .returned (.float .f64 fx) ∧ w' = w) ∧
  (∀ w, Calls Try.prog 147 #[.int .i64 pg, .int .i64 64] w fun e w' => e = .returned (.float .f64 fg) ∧ w' = w) ∧
  (∀ w, Calls Try.prog 174 #[.agg #[.float .f64 fx, .float .f64 fg, .float .f64 0, .float .f64 0], .agg #[.float .f64 rr, .float .f64 0, .float .f64 0, .float .f64 0, .float .f64 0, .float .f64 0], .agg #[.float .f64 0, .float .f64 0]] w
      fun e w' => e = .returned (.agg #[.float .f64 fd, .float .f64 fg, .float .f64 0, .float .f64 0]) ∧ Below w.heap.size w w') ∧
  (∀ w g c, w.cell? ⟨g, 0, none⟩ = some (.float .f64 0) → w.cell? ⟨g, 1, none⟩ = some (.float .f64 0) → w.cell? ⟨g, 2, none⟩ = some (.float .f64 fd) → Calls Try.prog 150 #[.slice (some ⟨g, 0, none⟩) 3 c] w fun e w' => e = .returned (.int .i64 0) ∧ w' = w) ∧
  (∀ w, Calls Try.prog 148 #[.float .f64 fd, .int .i64 64] w fun e w' => e = .returned (.int .i64 pd) ∧ w' = w)

theorem elem64 (s : Nat) (hs : s ≤ 8) (x g : Int) (hx : SmallN x) (hg : SmallN (g * 2 ^ s)) (hd : SmallN (x - g)) :
    ∃ fx fg fd, ElemOk64 (rateW .f64 s) (patI 64 x) (patI 64 (g * 2 ^ s)) (patI 64 (x - g)) fx fg fd := by
  have hg' : SmallN g := by
    unfold SmallN at hg ⊢
    rw [Int.natAbs_mul, Int.natAbs_pow] at hg
    exact Nat.lt_of_le_of_lt (Nat.le_mul_of_pos_right _ (Nat.pow_pos (by decide))) hg
  refine ⟨floatOfInt .f64 x, floatOfInt .f64 (g * 2 ^ s), floatOfInt .f64 (x - g), fun w => read64 _ w, fun w => read64 _ w, fun w => plain64 _ _ _ _ _ w (mul_ok .f64 s hs g hg) (sub_ok .f64 x g hx hg' hd), fun w q c h0 h1 h2 => ?_, fun w => pat64 _ w⟩
  refine fin64 q c [0, 0, x - g] ?_ w ?_
  · intro j hj
    have h' : j = 0 ∨ j = 1 ∨ j = 2 := by omega
    rcases h' with rfl | rfl | rfl
    · exact small0
    · exact small0
    · exact hd
  · intro j hj
    have h' : j = 0 ∨ j = 1 ∨ j = 2 := by omega
    rcases h' with rfl | rfl | rfl
    · show _ = some (Value.float .f64 (floatOfInt .f64 0)); rw [zero_word]; exact h0
    · show _ = some (Value.float .f64 (floatOfInt .f64 0)); rw [zero_word]; exact h1
    · exact h2
end Go.Proofs.Ytdddbljkhhbdlaa
