/-
The contracts of the document's own Class, Finite and NaN.
-/
import Derived.Test.YtdddbljkhhbdlaaClass
namespace Go.Proofs.Ytdddbljkhhbdlaa
open Go.RowKit

set_option maxRecDepth 100000 in
set_option maxHeartbeats 2000000 in
theorem refclass64n (b : Int) (h0 : -9223372036854775808 ≤ b) (h1 : b ≤ -1) (W : World) : Calls Try.prog 162 #[.int .i64 b, .int .i64 64] W fun e W' => e = .returned (.int .i64 (clsI 64 b)) ∧ Below W.heap.size W W' := by
  have ef : (b + 9223372036854775808) / 4503599627370496 = fldI 64 b := by unfold fldI; simp; omega
  have et : (b + 9223372036854775808) % 4503599627370496 = frcI 64 b := by unfold frcI; simp; omega
  have hF : 0 ≤ fldI 64 b ∧ fldI 64 b ≤ 2047 := by unfold fldI; simp; omega
  have hT : 0 ≤ frcI 64 b ∧ frcI 64 b ≤ 4503599627370495 := by unfold frcI; simp; omega
  have hE : clsI 64 b = clsE 2047 (fldI 64 b) (frcI 64 b) := rfl
  rw [hE]
  obtain ⟨F, hf⟩ : ∃ F, F = fldI 64 b := ⟨_, rfl⟩
  obtain ⟨T, ht⟩ : ∃ T, T = frcI 64 b := ⟨_, rfl⟩
  rw [← hf] at ef hF ⊢
  rw [← ht] at et hT ⊢
  obtain ⟨hF0, hF1⟩ := hF
  obtain ⟨hT0, hT1⟩ := hT
  have EF := Lib.hid ef
  have ET := Lib.hid et
  clear hf ht ef et hE
  have hc : ((F = 2047 ∧ T = 0) ∨ (F = 2047 ∧ T ≠ 0) ∨ (F = 0 ∧ T = 0) ∨ (F = 0 ∧ T ≠ 0) ∨ (F ≠ 2047 ∧ F ≠ 0)) := by omega
  rcases hc with ⟨hf, ht⟩ | ⟨hf, ht⟩ | ⟨hf, ht⟩ | ⟨hf, ht⟩ | ⟨hf, ht⟩
  · have hR : clsE 2047 F T = 3 := by unfold clsE; simp [hf, ht]
    rw [hR]
    have q1 : (F == 2047) = true := by simp [hf]
    have q2 : decide (0 < F) = true := by simp [hf]
    have q3 : decide (0 < T) = false := by simp [ht]
    have q4 : 0 < F := by omega
    have q5 : ¬ 0 < T := by omega
    clear hf ht hR
    go_enter Try.func162, Try.ntmps162
    go_wp2
    go_quiet (fail)
    rw [EF.out, ET.out]
    go_wp2
    go_ret
    exact ⟨rfl, below_drewN ((((Below.refl _ W).alloc (Nat.le_refl _) _).alloc (by simp [go_sem]) _).alloc (by simp [go_sem]; omega) _) _⟩
  · have hR : clsE 2047 F T = 4 := by unfold clsE; simp [hf, ht]
    rw [hR]
    have q1 : (F == 2047) = true := by simp [hf]
    have q2 : decide (0 < F) = true := by simp [hf]
    have q3 : decide (0 < T) = true := by simp; omega
    have q4 : 0 < F := by omega
    have q5 : 0 < T := by omega
    clear hf ht hR
    go_enter Try.func162, Try.ntmps162
    go_wp2
    go_quiet (fail)
    rw [EF.out, ET.out]
    go_wp2
    go_ret
    exact ⟨rfl, below_drewN ((((Below.refl _ W).alloc (Nat.le_refl _) _).alloc (by simp [go_sem]) _).alloc (by simp [go_sem]; omega) _) _⟩
  · have hR : clsE 2047 F T = 0 := by unfold clsE; simp [hf, ht]
    rw [hR]
    have q1 : (F == 2047) = false := by simp [hf]
    have q2 : decide (0 < F) = false := by simp [hf]
    have q3 : decide (0 < T) = false := by simp [ht]
    have q4 : ¬ 0 < F := by omega
    have q5 : ¬ 0 < T := by omega
    clear hf ht hR
    go_enter Try.func162, Try.ntmps162
    go_wp2
    go_quiet (fail)
    rw [EF.out, ET.out]
    go_wp2
    go_ret
    exact ⟨rfl, below_drewN ((((Below.refl _ W).alloc (Nat.le_refl _) _).alloc (by simp [go_sem]) _).alloc (by simp [go_sem]; omega) _) _⟩
  · have hR : clsE 2047 F T = 1 := by unfold clsE; simp [hf, ht]
    rw [hR]
    have q1 : (F == 2047) = false := by simp [hf]
    have q2 : decide (0 < F) = false := by simp [hf]
    have q3 : decide (0 < T) = true := by simp; omega
    have q4 : ¬ 0 < F := by omega
    have q5 : 0 < T := by omega
    clear hf ht hR
    go_enter Try.func162, Try.ntmps162
    go_wp2
    go_quiet (fail)
    rw [EF.out, ET.out]
    go_wp2
    go_ret
    exact ⟨rfl, below_drewN ((((Below.refl _ W).alloc (Nat.le_refl _) _).alloc (by simp [go_sem]) _).alloc (by simp [go_sem]; omega) _) _⟩
  · have hR : clsE 2047 F T = 2 := by unfold clsE; simp [hf, ht]
    rw [hR]
    have q1 : (F == 2047) = false := by simp [hf]
    have q2 : decide (0 < F) = true := by simp; omega
    have q4 : 0 < F := by omega
    clear hf ht hR
    go_enter Try.func162, Try.ntmps162
    go_wp2
    go_quiet (fail)
    rw [EF.out, ET.out]
    go_wp2
    go_ret
    exact ⟨rfl, below_drewN ((((Below.refl _ W).alloc (Nat.le_refl _) _).alloc (by simp [go_sem]) _).alloc (by simp [go_sem]; omega) _) _⟩
set_option maxRecDepth 100000 in
set_option maxHeartbeats 2000000 in
theorem refclass64p (b : Int) (h0 : 0 ≤ b) (h1 : b ≤ 9223372036854775807) (W : World) : Calls Try.prog 162 #[.int .i64 b, .int .i64 64] W fun e W' => e = .returned (.int .i64 (clsI 64 b)) ∧ Below W.heap.size W W' := by
  have ef : b / 4503599627370496 = fldI 64 b := by unfold fldI; simp; omega
  have et : b % 4503599627370496 = frcI 64 b := by unfold frcI; simp
  have hF : 0 ≤ fldI 64 b ∧ fldI 64 b ≤ 2047 := by unfold fldI; simp; omega
  have hT : 0 ≤ frcI 64 b ∧ frcI 64 b ≤ 4503599627370495 := by unfold frcI; simp; omega
  have hE : clsI 64 b = clsE 2047 (fldI 64 b) (frcI 64 b) := rfl
  rw [hE]
  obtain ⟨F, hf⟩ : ∃ F, F = fldI 64 b := ⟨_, rfl⟩
  obtain ⟨T, ht⟩ : ∃ T, T = frcI 64 b := ⟨_, rfl⟩
  rw [← hf] at ef hF ⊢
  rw [← ht] at et hT ⊢
  obtain ⟨hF0, hF1⟩ := hF
  obtain ⟨hT0, hT1⟩ := hT
  have EF := Lib.hid ef
  have ET := Lib.hid et
  clear hf ht ef et hE
  have hc : ((F = 2047 ∧ T = 0) ∨ (F = 2047 ∧ T ≠ 0) ∨ (F = 0 ∧ T = 0) ∨ (F = 0 ∧ T ≠ 0) ∨ (F ≠ 2047 ∧ F ≠ 0)) := by omega
  rcases hc with ⟨hf, ht⟩ | ⟨hf, ht⟩ | ⟨hf, ht⟩ | ⟨hf, ht⟩ | ⟨hf, ht⟩
  · have hR : clsE 2047 F T = 3 := by unfold clsE; simp [hf, ht]
    rw [hR]
    have q1 : (F == 2047) = true := by simp [hf]
    have q2 : decide (0 < F) = true := by simp [hf]
    have q3 : decide (0 < T) = false := by simp [ht]
    have q4 : 0 < F := by omega
    have q5 : ¬ 0 < T := by omega
    clear hf ht hR
    go_enter Try.func162, Try.ntmps162
    go_wp2
    go_quiet (fail)
    rw [EF.out, ET.out]
    go_wp2
    go_ret
    exact ⟨rfl, below_drewN ((((Below.refl _ W).alloc (Nat.le_refl _) _).alloc (by simp [go_sem]) _).alloc (by simp [go_sem]; omega) _) _⟩
  · have hR : clsE 2047 F T = 4 := by unfold clsE; simp [hf, ht]
    rw [hR]
    have q1 : (F == 2047) = true := by simp [hf]
    have q2 : decide (0 < F) = true := by simp [hf]
    have q3 : decide (0 < T) = true := by simp; omega
    have q4 : 0 < F := by omega
    have q5 : 0 < T := by omega
    clear hf ht hR
    go_enter Try.func162, Try.ntmps162
    go_wp2
    go_quiet (fail)
    rw [EF.out, ET.out]
    go_wp2
    go_ret
    exact ⟨rfl, below_drewN ((((Below.refl _ W).alloc (Nat.le_refl _) _).alloc (by simp [go_sem]) _).alloc (by simp [go_sem]; omega) _) _⟩
  · have hR : clsE 2047 F T = 0 := by unfold clsE; simp [hf, ht]
    rw [hR]
    have q1 : (F == 2047) = false := by simp [hf]
    have q2 : decide (0 < F) = false := by simp [hf]
    have q3 : decide (0 < T) = false := by simp [ht]
    have q4 : ¬ 0 < F := by omega
    have q5 : ¬ 0 < T := by omega
    clear hf ht hR
    go_enter Try.func162, Try.ntmps162
    go_wp2
    go_quiet (fail)
    rw [EF.out, ET.out]
    go_wp2
    go_ret
    exact ⟨rfl, below_drewN ((((Below.refl _ W).alloc (Nat.le_refl _) _).alloc (by simp [go_sem]) _).alloc (by simp [go_sem]; omega) _) _⟩
  · have hR : clsE 2047 F T = 1 := by unfold clsE; simp [hf, ht]
    rw [hR]
    have q1 : (F == 2047) = false := by simp [hf]
    have q2 : decide (0 < F) = false := by simp [hf]
    have q3 : decide (0 < T) = true := by simp; omega
    have q4 : ¬ 0 < F := by omega
    have q5 : 0 < T := by omega
    clear hf ht hR
    go_enter Try.func162, Try.ntmps162
    go_wp2
    go_quiet (fail)
    rw [EF.out, ET.out]
    go_wp2
    go_ret
    exact ⟨rfl, below_drewN ((((Below.refl _ W).alloc (Nat.le_refl _) _).alloc (by simp [go_sem]) _).alloc (by simp [go_sem]; omega) _) _⟩
  · have hR : clsE 2047 F T = 2 := by unfold clsE; simp [hf, ht]
    rw [hR]
    have q1 : (F == 2047) = false := by simp [hf]
    have q2 : decide (0 < F) = true := by simp; omega
    have q4 : 0 < F := by omega
    clear hf ht hR
    go_enter Try.func162, Try.ntmps162
    go_wp2
    go_quiet (fail)
    rw [EF.out, ET.out]
    go_wp2
    go_ret
    exact ⟨rfl, below_drewN ((((Below.refl _ W).alloc (Nat.le_refl _) _).alloc (by simp [go_sem]) _).alloc (by simp [go_sem]; omega) _) _⟩
set_option maxRecDepth 100000 in
set_option maxHeartbeats 2000000 in
theorem refclass32 (b : Int) (h0 : 0 ≤ b) (h1 : b ≤ 4294967295) (W : World) : Calls Try.prog 162 #[.int .i64 b, .int .i64 32] W fun e W' => e = .returned (.int .i64 (clsI 32 b)) ∧ Below W.heap.size W W' := by
  have ef : b % 2147483648 / 8388608 = fldI 32 b := by unfold fldI; simp; omega
  have et : b % 8388608 = frcI 32 b := by unfold frcI; simp
  have hF : 0 ≤ fldI 32 b ∧ fldI 32 b ≤ 255 := by unfold fldI; simp; omega
  have hT : 0 ≤ frcI 32 b ∧ frcI 32 b ≤ 8388607 := by unfold frcI; simp; omega
  have hE : clsI 32 b = clsE 255 (fldI 32 b) (frcI 32 b) := rfl
  rw [hE]
  obtain ⟨F, hf⟩ : ∃ F, F = fldI 32 b := ⟨_, rfl⟩
  obtain ⟨T, ht⟩ : ∃ T, T = frcI 32 b := ⟨_, rfl⟩
  rw [← hf] at ef hF ⊢
  rw [← ht] at et hT ⊢
  obtain ⟨hF0, hF1⟩ := hF
  obtain ⟨hT0, hT1⟩ := hT
  have EF := Lib.hid ef
  have ET := Lib.hid et
  clear hf ht ef et hE
  have hc : ((F = 255 ∧ T = 0) ∨ (F = 255 ∧ T ≠ 0) ∨ (F = 0 ∧ T = 0) ∨ (F = 0 ∧ T ≠ 0) ∨ (F ≠ 255 ∧ F ≠ 0)) := by omega
  rcases hc with ⟨hf, ht⟩ | ⟨hf, ht⟩ | ⟨hf, ht⟩ | ⟨hf, ht⟩ | ⟨hf, ht⟩
  · have hR : clsE 255 F T = 3 := by unfold clsE; simp [hf, ht]
    rw [hR]
    have q1 : (F == 255) = true := by simp [hf]
    have q2 : decide (0 < F) = true := by simp [hf]
    have q3 : decide (0 < T) = false := by simp [ht]
    have q4 : 0 < F := by omega
    have q5 : ¬ 0 < T := by omega
    clear hf ht hR
    go_enter Try.func162, Try.ntmps162
    go_wp2
    go_quiet (fail)
    rw [EF.out, ET.out]
    go_wp2
    go_ret
    exact ⟨rfl, below_drewN ((((Below.refl _ W).alloc (Nat.le_refl _) _).alloc (by simp [go_sem]) _).alloc (by simp [go_sem]; omega) _) _⟩
  · have hR : clsE 255 F T = 4 := by unfold clsE; simp [hf, ht]
    rw [hR]
    have q1 : (F == 255) = true := by simp [hf]
    have q2 : decide (0 < F) = true := by simp [hf]
    have q3 : decide (0 < T) = true := by simp; omega
    have q4 : 0 < F := by omega
    have q5 : 0 < T := by omega
    clear hf ht hR
    go_enter Try.func162, Try.ntmps162
    go_wp2
    go_quiet (fail)
    rw [EF.out, ET.out]
    go_wp2
    go_ret
    exact ⟨rfl, below_drewN ((((Below.refl _ W).alloc (Nat.le_refl _) _).alloc (by simp [go_sem]) _).alloc (by simp [go_sem]; omega) _) _⟩
  · have hR : clsE 255 F T = 0 := by unfold clsE; simp [hf, ht]
    rw [hR]
    have q1 : (F == 255) = false := by simp [hf]
    have q2 : decide (0 < F) = false := by simp [hf]
    have q3 : decide (0 < T) = false := by simp [ht]
    have q4 : ¬ 0 < F := by omega
    have q5 : ¬ 0 < T := by omega
    clear hf ht hR
    go_enter Try.func162, Try.ntmps162
    go_wp2
    go_quiet (fail)
    rw [EF.out, ET.out]
    go_wp2
    go_ret
    exact ⟨rfl, below_drewN ((((Below.refl _ W).alloc (Nat.le_refl _) _).alloc (by simp [go_sem]) _).alloc (by simp [go_sem]; omega) _) _⟩
  · have hR : clsE 255 F T = 1 := by unfold clsE; simp [hf, ht]
    rw [hR]
    have q1 : (F == 255) = false := by simp [hf]
    have q2 : decide (0 < F) = false := by simp [hf]
    have q3 : decide (0 < T) = true := by simp; omega
    have q4 : ¬ 0 < F := by omega
    have q5 : 0 < T := by omega
    clear hf ht hR
    go_enter Try.func162, Try.ntmps162
    go_wp2
    go_quiet (fail)
    rw [EF.out, ET.out]
    go_wp2
    go_ret
    exact ⟨rfl, below_drewN ((((Below.refl _ W).alloc (Nat.le_refl _) _).alloc (by simp [go_sem]) _).alloc (by simp [go_sem]; omega) _) _⟩
  · have hR : clsE 255 F T = 2 := by unfold clsE; simp [hf, ht]
    rw [hR]
    have q1 : (F == 255) = false := by simp [hf]
    have q2 : decide (0 < F) = true := by simp; omega
    have q4 : 0 < F := by omega
    clear hf ht hR
    go_enter Try.func162, Try.ntmps162
    go_wp2
    go_quiet (fail)
    rw [EF.out, ET.out]
    go_wp2
    go_ret
    exact ⟨rfl, below_drewN ((((Below.refl _ W).alloc (Nat.le_refl _) _).alloc (by simp [go_sem]) _).alloc (by simp [go_sem]; omega) _) _⟩

theorem refclass_any (b w : Int) (h : okB w b) (W : World) : Calls Try.prog 162 #[.int .i64 b, .int .i64 w] W fun e W' => e = .returned (.int .i64 (clsI w b)) ∧ Below W.heap.size W W' := by
  rcases h with ⟨rfl, h0, h1⟩ | ⟨rfl, h0, h1⟩
  · by_cases hn : b < 0
    · exact refclass64n b h0 (by omega) W
    · exact refclass64p b (by omega) h1 W
  · exact refclass32 b h0 h1 W
theorem class_any (b w : Int) (h : okB w b) (W : World) : Calls Try.prog 101 #[.int .i64 b, .int .i64 w] W fun e W' => e = .returned (.int .i64 (clsI w b)) ∧ Below W.heap.size W W' := by
  rcases h with ⟨rfl, h0, h1⟩ | ⟨rfl, h0, h1⟩
  · exact class64 b W
  · exact class32 b h0 h1 W
theorem reffinite_any (b w : Int) (h : okB w b) (W : World) : Calls Try.prog 134 #[.int .i64 b, .int .i64 w] W fun e W' => e = .returned (.bool (decide (clsI w b < 3))) ∧ Below W.heap.size W W' := by
  go_enter Try.func134, Try.ntmps134
  go_wp2_with fail
  refine (refclass_any b w h _).mono ?_
  rintro e w1 ⟨rfl, hb⟩
  go_wp2
  go_ret
  exact ⟨rfl, hb⟩
theorem refnan_any (b w : Int) (h : okB w b) (W : World) : Calls Try.prog 135 #[.int .i64 b, .int .i64 w] W fun e W' => e = .returned (.bool (clsI w b == 4)) ∧ Below W.heap.size W W' := by
  go_enter Try.func135, Try.ntmps135
  go_wp2_with fail
  refine (refclass_any b w h _).mono ?_
  rintro e w1 ⟨rfl, hb⟩
  go_wp2
  go_ret
  exact ⟨rfl, hb⟩
end Go.Proofs.Ytdddbljkhhbdlaa
